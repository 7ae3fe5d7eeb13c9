import Derived.Test.YtoganolkgmilaaaGreatDoorXG
import Derived.Test.YtoganolkgmilaaaGreatDoorXH
import Derived.Test.YtoganolkgmilaaaGreatDoorXJ
import Derived.Deep.DeepCutAuto
namespace Go.Proofs.YtoganolkgmilaaaGreatDoor
open Go Go.RowKit
/-! The roles of a call's own blocks. -/
theorem SpJ.from {o : Roles} {w : World} {q : List Nat} {p : Nat} {S : SP} {c : Cnt} {r : List Nat} (h : SpJ o w q p S c) : SpJ (o.from w.heap.size r) w q p S c := by
  obtain ⟨m, d, a, kvs, h⟩ := h
  exact ⟨m, d, a, kvs, h.from⟩
theorem fresh_roles (o : Roles) : ∀ n : Nat, ∃ m, ∀ j b, b < n → ¬ [m + j] <+: o b := by
  have h : ∀ n : Nat, ∃ m, ∀ b, b < n → ∀ k t, o b = k :: t → k < m := by
    intro n
    induction n with
    | zero => exact ⟨0, fun b hb => absurd hb (Nat.not_lt_zero _)⟩
    | succ n ih =>
      obtain ⟨m, hm⟩ := ih
      refine ⟨m + (o n).headD 0 + 1, fun b hb k t e => ?_⟩
      rcases Nat.lt_succ_iff_lt_or_eq.1 hb with h | rfl
      · have := hm b h k t e; omega
      · rw [e]; simp; omega
  intro n
  obtain ⟨m, hm⟩ := h n
  refine ⟨m, fun j b hb hp => ?_⟩
  cases e : o b with
  | nil => rw [e] at hp; simp at hp
  | cons k t =>
    rw [e, List.cons_prefix_cons] at hp
    have := hm b hb k t e
    omega
/-- Roles under which a call begins: what is new bears [m + 2]; nothing bears [m], [m + 1]. -/
structure Begin (o : Roles) (w : World) (q : List Nat) (o1 : Roles) (m : Nat) : Prop where
  old : ∀ b, b < w.heap.size → o1 b = o b
  new : ∀ b, w.heap.size ≤ b → o1 b = [m + 2]
  st : ∀ s, Stp s o w o1 w
  no : ∀ j b, j < 2 → ¬ [m + j] <+: o1 b
  no2 : ∀ j b, b < w.heap.size → ¬ [m + j] <+: o1 b
  ap : ∀ j, Apart [m + j] q
  aq : ∀ j, Apart q [m + j]
theorem begin_roles {o : Roles} {w : World} {q : List Nat} {p : Nat} {S : SP} {c : Cnt} (h : SpJ o w q p S c) (hq : q ≠ []) : ∃ o1 m, Begin o w q o1 m ∧ SpJ o1 w q p S c := by
  obtain ⟨m, hm⟩ := fresh_roles o w.heap.size
  refine ⟨o.from w.heap.size [m + 2], m, ⟨fun b hb => Roles.from_old hb, fun b hb => Roles.from_new hb, fun s => Stp.from0 s o w _, fun j b hj => ?_, fun j b hb => by rw [Roles.from_old hb]; exact hm j b hb, fun j => apart_fresh (hm j) h.role.2 h.role.1 hq, fun j => apart_fresh' (hm j) h.role.2 h.role.1 hq⟩, h.from⟩
  rcases Nat.lt_or_ge b w.heap.size with hb | hb
  · rw [Roles.from_old hb]; exact hm j b hb
  · rw [Roles.from_new hb]; simp; omega
theorem Begin.blk {o o1 : Roles} {w : World} {q r : List Nat} {m b : Nat} {cs : Array Value} {T : TypeId} (h : Begin o w q o1 m) (hb : Blk o w r b cs T) : Blk o1 w r b cs T := ⟨hb.heap, by rw [h.old b hb.lt]; exact hb.role⟩
/-- What was there keeps through steps at blocks that no role of those says. -/
theorem Begin.keepVw {o o1 o2 : Roles} {w w1 w2 : World} {q : List Nat} {m j sz n : Nat} {v : Value} {xs : List Value} (h : Begin o w q o1 m) (hv : Vw (fun b => b < w.heap.size) w1 v sz n xs) {o1' : Roles} (he : ∀ b, b < w.heap.size → o1' b = o1 b) (st : Stp [m + j] o1' w1 o2 w2) : Vw (fun b => b < w.heap.size) w2 v sz n xs :=
  hv.stay st.size (fun b hb hb2 => st.block b hb2 (by rw [he b hb]; exact h.no2 j b hb))
abbrev zRepC : Array Value := #[.int .i64 0, .string ⟨#[]⟩, .int .i64 0, .slice none 0 0]
/-- The block of a result, in a world behind its making. -/
theorem Begin.res {o o1 : Roles} {w : World} {q : List Nat} {m : Nat} (h : Begin o w q o1 m) : Blk o1 (w.alloc (.cells zRepC 29)) [m + 2] w.heap.size zRepC 29 ∧ Below w.heap.size w (w.alloc (.cells zRepC 29)) :=
  ⟨⟨heap_alloc_new w _, h.new _ (Nat.le_refl _)⟩, (Below.refl _ _).alloc (Nat.le_refl _) _⟩
/-- A reply is laid into the result's block. -/
theorem Begin.stored {o o1 o4 : Roles} {w w6 : World} {q : List Nat} {p m R : Nat} {S : SP} {c : Cnt} (h : Begin o w q o1 m) (hj : SpJ o4 w6 q p S c) (hr : Blk o4 w6 [m + 2] R zRepC 29) (hs : Stp q o w o4 w6) (v0 v1 v2 v3 : Value) :
    SpJ o4 ((((w6.setCell ⟨R, 0, none⟩ v0).setCell ⟨R, 1, none⟩ v1).setCell ⟨R, 2, none⟩ v2).setCell ⟨R, 3, none⟩ v3) q p S c ∧ Stp q o w o4 ((((w6.setCell ⟨R, 0, none⟩ v0).setCell ⟨R, 1, none⟩ v1).setCell ⟨R, 2, none⟩ v2).setCell ⟨R, 3, none⟩ v3) := by
  have hst : Stp [m + 2] o4 w6 o4 ((((w6.setCell ⟨R, 0, none⟩ v0).setCell ⟨R, 1, none⟩ v1).setCell ⟨R, 2, none⟩ v2).setCell ⟨R, 3, none⟩ v3) := by
    iterate 4 refine Stp.setCell ?_ (by show [m + 2] <+: o4 R; rw [hr.role]; exact List.prefix_refl _) _
    exact Stp.refl _ _ _
  exact ⟨hj.keep hst (h.ap 2), hs.hide hst (fun b hb => by have := h.no2 2 b hb; rw [h.old b hb] at this; exact this)⟩
/-- What a call of a command keeps: the space, the call's own block, the result's. -/
structure Fr (o : Roles) (w : World) (q : List Nat) (p m : Nat) (ρ : List Nat) (cb : Nat) (cs : Array Value) (S : SP) (c : Cnt) (ox : Roles) (wx : World) : Prop where
  sp : SpJ ox wx q p S c
  call : Blk ox wx ρ cb cs 93
  res : Blk ox wx [m + 2] w.heap.size zRepC 29
  st : Stp q o w ox wx
  far : ∀ j, ¬ [m + j] <+: ρ
section
variable {o ox oy : Roles} {w wx wy : World} {q : List Nat} {p m : Nat} {ρ : List Nat} {cb : Nat} {cs : Array Value} {S S' : SP} {c c' : Cnt} {o1 : Roles}
theorem Fr.begin (h : Begin o w q o1 m) (hj : SpJ o1 w q p S c) (hcb : Blk o w ρ cb cs 93) : Fr o w q p m ρ cb cs S c o1 (w.alloc (.cells zRepC 29)) :=
  ⟨hj.below h.res.2, (h.blk hcb).below h.res.2, h.res.1, (h.st q).trans (Stp.ofBelow q o1 h.res.2), fun j => by rw [← hcb.role, ← h.old cb hcb.lt]; exact h.no2 j cb hcb.lt⟩
theorem Fr.below (h : Fr o w q p m ρ cb cs S c ox wx) (hB : Below wx.heap.size wx wy) : Fr o w q p m ρ cb cs S c ox wy :=
  ⟨h.sp.below hB, h.call.below hB, h.res.below hB, h.st.trans (Stp.ofBelow q ox hB), h.far⟩
theorem Fr.step {j : Nat} (hb : Begin o w q o1 m) (hj : j < 2) (h : Fr o w q p m ρ cb cs S c ox wx) (st : Stp [m + j] ox wx oy wy) : Fr o w q p m ρ cb cs S c oy wy :=
  ⟨h.sp.keep st (hb.ap j), h.call.keep st (h.far j), h.res.keep st (by simp; omega), h.st.hide st (fun b hb2 => by rw [← hb.old b hb2]; exact hb.no2 j b hb2), h.far⟩
theorem Fr.put (hb : Begin o w q o1 m) (hρ : ¬ q <+: ρ) (h : Fr o w q p m ρ cb cs S c ox wx) (hj : SpJ oy wy q p S' c') (hs : Stp q ox wx oy wy) : Fr o w q p m ρ cb cs S' c' oy wy :=
  ⟨hj, h.call.keep hs hρ, h.res.keep hs (hb.aq 2).not, h.st.trans hs, h.far⟩
/-- The end: a reply is laid into the result's block. -/
theorem Fr.fin (hb : Begin o w q o1 m) (h : Fr o w q p m ρ cb cs S c ox wx) (v0 v1 v2 v3 : Value) :
    SpJ ox ((((wx.setCell ⟨w.heap.size, 0, none⟩ v0).setCell ⟨w.heap.size, 1, none⟩ v1).setCell ⟨w.heap.size, 2, none⟩ v2).setCell ⟨w.heap.size, 3, none⟩ v3) q p S c ∧ Stp q o w ox ((((wx.setCell ⟨w.heap.size, 0, none⟩ v0).setCell ⟨w.heap.size, 1, none⟩ v1).setCell ⟨w.heap.size, 2, none⟩ v2).setCell ⟨w.heap.size, 3, none⟩ v3) :=
  hb.stored h.sp h.res h.st v0 v1 v2 v3
end
def RepJ (o : Roles) (w : World) (q : List Nat) (p : Nat) (S : SP) (c : Cnt) (r : Rf) (e : Ending) (w' : World) : Prop :=
  e = .returned (repV r.kind r.text r.n (.slice none 0 0)) ∧ ∃ o', SpJ o' w' q p S c ∧ Stp q o w o' w'
def errF (s : List UInt8) : Rf := ⟨2, s, 0⟩
end Go.Proofs.YtoganolkgmilaaaGreatDoor
namespace Go.Proofs.YtoganolkgmilaaaGreatDoor
open Go Go.RowKit
/-! A reply, the space behind it, and what serves a request. -/
theorem all_below {o o' : Roles} {w w' : World} (h : ∀ s, Stp s o w o' w') : Below w.heap.size w w' :=
  ⟨(h []).os, (h []).tape, (h []).output, (h []).size, fun b hb => (h (o b ++ [0])).block b hb (by intro hp; have := hp.length_le; simp at this; omega)⟩
structure RP where
  kind : Nat
  text : List UInt8
  n : Int
  list : List Rf
def RepB (w : World) (r : RP) (e : Ending) (w' : World) : Prop :=
  ∃ v, e = .returned (repV r.kind r.text r.n v) ∧ Vw (fun b => w.heap.size ≤ b) w' v 4 r.list.length (rfsC r.list) ∧ Below w.heap.size w w'
def numR (n : Int) : RP := ⟨3, [], n, []⟩
def bulkR (s : List UInt8) : RP := ⟨4, s, 0, []⟩
def nullR : RP := ⟨5, [], 0, []⟩
def errR (s : List UInt8) : RP := ⟨2, s, 0, []⟩
def bulksR (l : List (List UInt8)) : RP := ⟨6, [], 0, l.map bulkF⟩
/-- A reply's four cells are laid into the result's block. -/
theorem below_four {w w5 : World} {v0 v1 v2 v3 : Value} (h : Below w.heap.size w w5) : Below w.heap.size w ((((w5.setCell ⟨w.heap.size, 0, none⟩ v0).setCell ⟨w.heap.size, 1, none⟩ v1).setCell ⟨w.heap.size, 2, none⟩ v2).setCell ⟨w.heap.size, 3, none⟩ v3) := by
  iterate 4 refine Below.setCell ?_ (by exact Nat.le_refl _) _
  exact h
theorem vw_four {w w5 w6 : World} {v0 v1 v2 v3 v : Value} {sz n : Nat} {xs : List Value} (h : Vw (fun b => w5.heap.size ≤ b) w6 v sz n xs) (hs : w.heap.size < w5.heap.size) :
    Vw (fun b => w.heap.size ≤ b) ((((w6.setCell ⟨w.heap.size, 0, none⟩ v0).setCell ⟨w.heap.size, 1, none⟩ v1).setCell ⟨w.heap.size, 2, none⟩ v2).setCell ⟨w.heap.size, 3, none⟩ v3) v sz n xs := by
  refine (h.stay (by simp) (fun b hb _ => ?_)).imp (fun b hb => by omega)
  repeat rw [heap_set_far (by show b ≠ w.heap.size; omega)]
/-- A reply, and the space behind it. -/
def RepL (o : Roles) (w : World) (q : List Nat) (p : Nat) (r : RP) (K : SP → Cnt → Prop) (e : Ending) (w' : World) : Prop :=
  ∃ v, e = .returned (repV r.kind r.text r.n v) ∧ Vw (fun b => w.heap.size ≤ b) w' v 4 r.list.length (rfsC r.list) ∧ ∃ o' S' c', SpJ o' w' q p S' c' ∧ K S' c' ∧ Stp q o w o' w'
section
variable {o : Roles} {w : World} {q : List Nat} {p : Nat} {c c' : Cnt} {S S' : SP}
theorem RepJ.repL {r : Rf} {K : SP → Cnt → Prop} {e : Ending} {w' : World} (h : RepJ o w q p S' c' r e w') (hK : K S' c') : RepL o w q p ⟨r.kind, r.text, r.n, []⟩ K e w' := by
  obtain ⟨rfl, o', hj, hs⟩ := h
  exact ⟨_, rfl, Vw.nil _ _ _, o', S', c', hj, hK, hs⟩
theorem RepB.repL {r : RP} {K : SP → Cnt → Prop} {e : Ending} {w' : World} (h : RepB w r e w') (hj : SpJ o w q p S c) (hK : K S c) : RepL o w q p r K e w' := by
  obtain ⟨v, rfl, hv, hB⟩ := h
  exact ⟨v, rfl, hv, o, S, c, hj.below hB, hK, Stp.ofBelow q o hB⟩
end
/-- A reply of a request. -/
def RunDid (o : Roles) (w : World) (q : List Nat) (p : Nat) (r : RP) (K : SP → Cnt → Prop) (e : Ending) (w' : World) : Prop :=
  ∃ v, e = .returned (.tuple #[repV r.kind r.text r.n v, .bool true]) ∧ Vw (fun b => w.heap.size ≤ b) w' v 4 r.list.length (rfsC r.list) ∧ ∃ o' S' c', SpJ o' w' q p S' c' ∧ K S' c' ∧ Stp q o w o' w'
/-- What a command's function does, called over a request of its own. -/
def Serves (F : FuncId) (w : World) (q : List Nat) (p : Nat) (S : SP) (c : Cnt) (nm : List UInt8) (args : List (List UInt8)) (r : RP) (K : SP → Cnt → Prop) : Prop :=
  ∀ (o1 : Roles) (w1 : World) (cb m : Nat) (sv : Value), SpJ o1 w1 q p S c → ¬ q <+: [m] → Below w.heap.size w w1 → Blk o1 w1 [m] cb (callC p 0 nm sv) 93 → Vw (Old w1) w1 sv 1 args.length (args.map txt) →
    Calls Tryz.prog F #[.pointer (some ⟨cb, 0, none⟩)] w1 (RepL o1 w1 q p r K)
/-- A few touches more. -/
def Cnt.near (c c' : Cnt) : Prop := c'.num ≤ c.num + 2 ∧ c'.few ≤ c.few + 2
theorem Cnt.near_refl (c : Cnt) : c.near c := ⟨by omega, by omega⟩
end Go.Proofs.YtoganolkgmilaaaGreatDoor
namespace Go.Proofs.YtoganolkgmilaaaGreatDoor
open Go Go.RowKit
/-! change: SADD and SREM. -/
abbrev saddB : Tx := [115, 97, 100, 100]
abbrev sremB : Tx := [115, 114, 101, 109]
def SP.chS (S : SP) (now : Int) (k : Tx) (l : List Tx) (n : Int) (num : Nat) : SP := if 0 < n then S.layS now k l ((S.at now k).getD hd0).due num else S
def Cnt.chS (c : Cnt) (ok : Bool) (l : List Tx) (n : Int) : Cnt := if 0 < n then c.layS ok l else c
section
variable {o : Roles} {w : World} {q : List Nat} {p : Nat} {c : Cnt} {S : SP} {cb : Nat} {ρ : List Nat} {now : Int} {sv : Value}
set_option maxRecDepth 10000 in
set_option maxHeartbeats 4000000 in
theorem cadd_ok (h : SpJ o w q p S c) (hq : q ≠ []) (hρ : ¬ q <+: ρ) (hcb : Blk o w ρ cb (callC p now saddB sv) 93)
    {k : Tx} {more : List Tx} (hv : Vw (Old w) w sv 1 (more.length + 1) ((k :: more).map txt))
    {V : VV} (hV : V = ((S.at now k).getD hd0).v) {ok : Bool} (hok : ok = (S.at now k).isSome) (hwr : (ok && V.kind != 4) = false)
    (hs : ∀ x ∈ ofL (V.list ++ more), x.length ≤ 1048576) (hl : V.list.length ≤ 274877906944) (hm : more.length ≤ 274877906944) (hc : c.num ≤ 4611686018427387903) (hf : c.few ≤ 1099511627775) :
    Calls Tryz.prog 43 #[.pointer (some ⟨cb, 0, none⟩)] w (RepJ o w q p (S.chS now k (ofL (V.list ++ more)) (((ofL (V.list ++ more)).length : Int) - ((ofL V.list).length : Int)) (c.num + 1)) (c.chS (S.at now k).isSome (ofL (V.list ++ more)) (((ofL (V.list ++ more)).length : Int) - ((ofL V.list).length : Int))) (numF (((ofL (V.list ++ more)).length : Int) - ((ofL V.list).length : Int)))) := by
  obtain ⟨o1, m, hbg, hj⟩ := begin_roles h hq
  have hfr0 := Fr.begin hbg hj hcb
  have hcc := hcb.cell
  have hcl := hcb.lt
  obtain ⟨b, off, cap, a', c', rfl, hk, hbl, hvm, hcut⟩ := vw_rest hv
  have hcap : more.length + 1 ≤ cap := by
    obtain ⟨a0, cap0, e0, hcap0, _⟩ := hv.slice
    injection e0 with _ _ e0
    omega
  replace hbl : b < w.heap.size := hbl
  have hlen2 := (show (ofL (V.list ++ more)).length ≤ V.list.length + more.length from by have := ofL_len (V.list ++ more); rwa [List.length_append] at this)
  have HSET := Lib.hid (fun (W : World) (hW : Below w.heap.size w W) => show Calls Tryz.prog 69 #[.pointer (some ⟨cb, 0, none⟩), txt k] W (SetDid W V ok) from by rw [hV, hok]; exact cset_ok (h.below hW) (hcb.below hW) k)
  have HBG := Lib.hid hbg
  have HFR := Lib.hid hfr0
  have HVM := Lib.hid hvm
  have HMEM := Lib.hid (fun (W W2 : World) (a2 : Option Addr) (c2 : Nat) (hv2 : Vw (fun b => W.heap.size ≤ b) W2 (.slice a2 V.list.length c2) 1 V.list.length (V.list.map txt)) (hW : Below w.heap.size w W2) => madd_ok (va := .slice a2 V.list.length c2) (vb := .slice a' more.length c') hv2 (hvm.below hW) (by omega) (by omega))
  have HP := Lib.hid h.role
  have HS := Lib.hid hs
  have HB1 := Lib.hid hbg.res.2
  have HWR := Lib.hid hwr
  have HLL := Lib.hid hlen2
  have HAS := Lib.hid (show Asc (ofL (V.list ++ more)) from ofL_asc _)
  unfold SP.chS Cnt.chS
  obtain ⟨N, hN⟩ : ∃ N, N = ((ofL (V.list ++ more)).length : Int) - ((ofL V.list).length : Int) := ⟨_, rfl⟩
  rw [← hN]
  rw [← hN] at HMEM
  obtain ⟨L, hL⟩ : ∃ L, L = ofL (V.list ++ more) := ⟨_, rfl⟩
  rw [← hL] at HMEM HS HAS HLL ⊢
  obtain ⟨S', hS'⟩ : ∃ S', S' = if 0 < N then S.layS now k L ((S.at now k).getD hd0).due (c.num + 1) else S := ⟨_, rfl⟩
  obtain ⟨cn, hcn⟩ : ∃ cn, cn = if 0 < N then c.layS (S.at now k).isSome L else c := ⟨_, rfl⟩
  rw [← hS', ← hcn]
  have HSC := Lib.hid (And.intro hS' hcn)
  clear h hcb hv hbg hj hs hV hok hwr hfr0 hvm hN hL hS' hcn hlen2
  unfold txt at HSET
  go_enter Tryz.func43, Tryz.ntmps43
  go_wp2_with fail
  refine (HSET.out _ HB1.out).mono ?_; rintro e w2 ⟨a2, c2, rfl, hv2, hB2⟩
  rw [HWR.out]
  have hB2w : Below w.heap.size w w2 := HB1.out.trans (hB2.mono HB1.out.size)
  have hfr2 := HFR.out.below hB2
  have hcc2 := hfr2.call.cell
  have HM := Lib.hid (HMEM.out _ w2 a2 c2 hv2 hB2w)
  have HB2 := Lib.hid hB2w
  have HF2 := Lib.hid hfr2
  have hk2 : w2.cell? ⟨b, off, none⟩ = some (.string ⟨k.toArray⟩) := cell_below hB2w hk
  clear hv2 hB2 hB2w hfr2 HSET HMEM HFR hcc hk
  go_wp2_with fail
  refine HM.out.mono ?_; rintro e w3 ⟨a3, c3, rfl, hv3, hB3⟩
  have hfr3 := HF2.out.below hB3
  have HF3 := Lib.hid hfr3
  have hcc3 := hfr3.call.cell
  have hk3 : w3.cell? ⟨b, off, none⟩ = some (.string ⟨k.toArray⟩) := cell_below hB3 hk2
  have hpl : p < w2.heap.size := Nat.lt_of_lt_of_le HP.out.2 HB2.out.size
  have HPUT := Lib.hid (cput_ok (A := fun b => w2.heap.size ≤ b) hfr3.sp hfr3.call k hv3 (fun b hb => by omega) HAS.out HS.out (by have := HLL.out; omega) (by omega) (by omega))
  clear hv3 hB3 HM HF2 hcc2 hk2 hfr3 HVM hpl
  unfold txt at HPUT
  by_cases hN0 : 0 < N
  · have e1 := HSC.out.1
    have e2 := HSC.out.2
    rw [if_pos hN0] at e1 e2
    rw [← e1, ← e2] at HPUT
    clear e1 e2
    go_wp2_with fail
    refine HPUT.out.mono ?_; rintro e w4 ⟨rfl, o4, hj4, hs4⟩
    have HF4 := Lib.hid (HF3.out.put HBG.out hρ hj4 hs4)
    clear hj4 hs4 HF3 HPUT hcc3 hk3
    go_wp2_with fail
    refine (lnumber_ok _ _).mono ?_; rintro e w6 ⟨rfl, hB6⟩
    have hf6 := HF4.out.below hB6
    have HF6 := Lib.hid hf6
    have hrc := hf6.res.cell
    have hrf := hf6.res.free
    clear hB6 hf6 HF4
    go_wp2_with fail
    obtain ⟨hj7, hs7⟩ := HF6.out.fin HBG.out (.int .i64 3) (.string ⟨#[]⟩) (.int .i64 N) (.slice none 0 0)
    exact bodyPost_ret (v := repV 3 [] N (.slice none 0 0)) (by simp [results, Tryz.results43, go_sem, hrc]) rfl ⟨rfl, o4, hj7, hs7⟩
  · have e1 := HSC.out.1
    have e2 := HSC.out.2
    rw [if_neg hN0] at e1 e2
    subst e1 e2
    clear HPUT
    go_wp2_with fail
    refine (lnumber_ok _ _).mono ?_; rintro e w6 ⟨rfl, hB6⟩
    have hf6 := HF3.out.below hB6
    have HF6 := Lib.hid hf6
    have hrc := hf6.res.cell
    have hrf := hf6.res.free
    clear hB6 hf6 HF3
    go_wp2_with fail
    obtain ⟨hj7, hs7⟩ := HF6.out.fin HBG.out (.int .i64 3) (.string ⟨#[]⟩) (.int .i64 N) (.slice none 0 0)
    exact bodyPost_ret (v := repV 3 [] N (.slice none 0 0)) (by simp [results, Tryz.results43, go_sem, hrc]) rfl ⟨rfl, o1, hj7, hs7⟩
set_option maxRecDepth 10000 in
set_option maxHeartbeats 4000000 in
theorem crem_ok (h : SpJ o w q p S c) (hq : q ≠ []) (hρ : ¬ q <+: ρ) (hcb : Blk o w ρ cb (callC p now sremB sv) 93)
    {k : Tx} {more : List Tx} (hv : Vw (Old w) w sv 1 (more.length + 1) ((k :: more).map txt))
    {V : VV} (hV : V = ((S.at now k).getD hd0).v) {ok : Bool} (hok : ok = (S.at now k).isSome) (hwr : (ok && V.kind != 4) = false)
    (hs : ∀ x ∈ lessL V.list more, x.length ≤ 1048576) (hl : V.list.length ≤ 274877906944) (hm : more.length ≤ 274877906944) (hc : c.num ≤ 4611686018427387903) (hf : c.few ≤ 1099511627775) :
    Calls Tryz.prog 43 #[.pointer (some ⟨cb, 0, none⟩)] w (RepJ o w q p (S.chS now k (lessL V.list more) (((ofL V.list).length : Int) - ((lessL V.list more).length : Int)) (c.num + 1)) (c.chS (S.at now k).isSome (lessL V.list more) (((ofL V.list).length : Int) - ((lessL V.list more).length : Int))) (numF (((ofL V.list).length : Int) - ((lessL V.list more).length : Int)))) := by
  obtain ⟨o1, m, hbg, hj⟩ := begin_roles h hq
  have hfr0 := Fr.begin hbg hj hcb
  have hcc := hcb.cell
  have hcl := hcb.lt
  obtain ⟨b, off, cap, a', c', rfl, hk, hbl, hvm, hcut⟩ := vw_rest hv
  have hcap : more.length + 1 ≤ cap := by
    obtain ⟨a0, cap0, e0, hcap0, _⟩ := hv.slice
    injection e0 with _ _ e0
    omega
  replace hbl : b < w.heap.size := hbl
  have hlen2 := (show (lessL V.list more).length ≤ V.list.length + more.length from by have h1 := ofL_len (V.list.filter fun x => decide (x ∉ more)); have h2 := List.length_filter_le (fun x => decide (x ∉ more)) V.list; show (ofL _).length ≤ _; omega)
  have HSET := Lib.hid (fun (W : World) (hW : Below w.heap.size w W) => show Calls Tryz.prog 69 #[.pointer (some ⟨cb, 0, none⟩), txt k] W (SetDid W V ok) from by rw [hV, hok]; exact cset_ok (h.below hW) (hcb.below hW) k)
  have HBG := Lib.hid hbg
  have HFR := Lib.hid hfr0
  have HVM := Lib.hid hvm
  have HMEM := Lib.hid (fun (W W2 : World) (a2 : Option Addr) (c2 : Nat) (hv2 : Vw (fun b => W.heap.size ≤ b) W2 (.slice a2 V.list.length c2) 1 V.list.length (V.list.map txt)) (hW : Below w.heap.size w W2) => mremove_ok (va := .slice a2 V.list.length c2) (vb := .slice a' more.length c') hv2 (hvm.below hW) (by omega) (by omega))
  have HP := Lib.hid h.role
  have HS := Lib.hid hs
  have HB1 := Lib.hid hbg.res.2
  have HWR := Lib.hid hwr
  have HLL := Lib.hid hlen2
  have HAS := Lib.hid (show Asc (lessL V.list more) from lessL_asc _ _)
  unfold SP.chS Cnt.chS
  obtain ⟨N, hN⟩ : ∃ N, N = ((ofL V.list).length : Int) - ((lessL V.list more).length : Int) := ⟨_, rfl⟩
  rw [← hN]
  rw [← hN] at HMEM
  obtain ⟨L, hL⟩ : ∃ L, L = lessL V.list more := ⟨_, rfl⟩
  rw [← hL] at HMEM HS HAS HLL ⊢
  obtain ⟨S', hS'⟩ : ∃ S', S' = if 0 < N then S.layS now k L ((S.at now k).getD hd0).due (c.num + 1) else S := ⟨_, rfl⟩
  obtain ⟨cn, hcn⟩ : ∃ cn, cn = if 0 < N then c.layS (S.at now k).isSome L else c := ⟨_, rfl⟩
  rw [← hS', ← hcn]
  have HSC := Lib.hid (And.intro hS' hcn)
  clear h hcb hv hbg hj hs hV hok hwr hfr0 hvm hN hL hS' hcn hlen2
  unfold txt at HSET
  go_enter Tryz.func43, Tryz.ntmps43
  go_wp2_with fail
  refine (HSET.out _ HB1.out).mono ?_; rintro e w2 ⟨a2, c2, rfl, hv2, hB2⟩
  rw [HWR.out]
  have hB2w : Below w.heap.size w w2 := HB1.out.trans (hB2.mono HB1.out.size)
  have hfr2 := HFR.out.below hB2
  have hcc2 := hfr2.call.cell
  have HM := Lib.hid (HMEM.out _ w2 a2 c2 hv2 hB2w)
  have HB2 := Lib.hid hB2w
  have HF2 := Lib.hid hfr2
  have hk2 : w2.cell? ⟨b, off, none⟩ = some (.string ⟨k.toArray⟩) := cell_below hB2w hk
  clear hv2 hB2 hB2w hfr2 HSET HMEM HFR hcc hk
  go_wp2_with fail
  refine HM.out.mono ?_; rintro e w3 ⟨a3, c3, rfl, hv3, hB3⟩
  have hfr3 := HF2.out.below hB3
  have HF3 := Lib.hid hfr3
  have hcc3 := hfr3.call.cell
  have hk3 : w3.cell? ⟨b, off, none⟩ = some (.string ⟨k.toArray⟩) := cell_below hB3 hk2
  have hpl : p < w2.heap.size := Nat.lt_of_lt_of_le HP.out.2 HB2.out.size
  have HPUT := Lib.hid (cput_ok (A := fun b => w2.heap.size ≤ b) hfr3.sp hfr3.call k hv3 (fun b hb => by omega) HAS.out HS.out (by have := HLL.out; omega) (by omega) (by omega))
  clear hv3 hB3 HM HF2 hcc2 hk2 hfr3 HVM hpl
  unfold txt at HPUT
  by_cases hN0 : 0 < N
  · have e1 := HSC.out.1
    have e2 := HSC.out.2
    rw [if_pos hN0] at e1 e2
    rw [← e1, ← e2] at HPUT
    clear e1 e2
    go_wp2_with fail
    refine HPUT.out.mono ?_; rintro e w4 ⟨rfl, o4, hj4, hs4⟩
    have HF4 := Lib.hid (HF3.out.put HBG.out hρ hj4 hs4)
    clear hj4 hs4 HF3 HPUT hcc3 hk3
    go_wp2_with fail
    refine (lnumber_ok _ _).mono ?_; rintro e w6 ⟨rfl, hB6⟩
    have hf6 := HF4.out.below hB6
    have HF6 := Lib.hid hf6
    have hrc := hf6.res.cell
    have hrf := hf6.res.free
    clear hB6 hf6 HF4
    go_wp2_with fail
    obtain ⟨hj7, hs7⟩ := HF6.out.fin HBG.out (.int .i64 3) (.string ⟨#[]⟩) (.int .i64 N) (.slice none 0 0)
    exact bodyPost_ret (v := repV 3 [] N (.slice none 0 0)) (by simp [results, Tryz.results43, go_sem, hrc]) rfl ⟨rfl, o4, hj7, hs7⟩
  · have e1 := HSC.out.1
    have e2 := HSC.out.2
    rw [if_neg hN0] at e1 e2
    subst e1 e2
    clear HPUT
    go_wp2_with fail
    refine (lnumber_ok _ _).mono ?_; rintro e w6 ⟨rfl, hB6⟩
    have hf6 := HF3.out.below hB6
    have HF6 := Lib.hid hf6
    have hrc := hf6.res.cell
    have hrf := hf6.res.free
    clear hB6 hf6 HF3
    go_wp2_with fail
    obtain ⟨hj7, hs7⟩ := HF6.out.fin HBG.out (.int .i64 3) (.string ⟨#[]⟩) (.int .i64 N) (.slice none 0 0)
    exact bodyPost_ret (v := repV 3 [] N (.slice none 0 0)) (by simp [results, Tryz.results43, go_sem, hrc]) rfl ⟨rfl, o1, hj7, hs7⟩
end
end Go.Proofs.YtoganolkgmilaaaGreatDoor
namespace Go.Proofs.YtoganolkgmilaaaGreatDoor
open Go Go.RowKit
/-! What a key of sets holds. -/
def SetIs (S : SP) (k : Tx) (l : List Tx) : Prop := (l = [] ∧ S k = none) ∨ (l ≠ [] ∧ ∃ n, S k = some ⟨setV l, 0, n⟩)
theorem SetIs.empty (k : Tx) : SetIs (fun _ => none) k [] := .inl ⟨rfl, rfl⟩
section
variable {S : SP} {c : Cnt} {k j : Tx} {l : List Tx}
theorem SP.at_due0 {H : Hd} (hS : S k = some H) (h0 : H.due = 0) (now : Int) : S.at now k = some H := by
  rw [SP.at_over hS]
  have : H.over now = false := by unfold Hd.over; rw [h0]; rfl
  rw [this]; rfl
theorem SetIs.at (h : SetIs S k l) (now : Int) : ((S.at now k).getD hd0).v.list = l ∧ ((S.at now k).isSome && ((S.at now k).getD hd0).v.kind != 4) = false ∧ ((S.at now k).getD hd0).due = 0 ∧ (S.at now k).isSome = !l.isEmpty := by
  rcases h with ⟨rfl, h⟩ | ⟨h0, n, h⟩
  · rw [SP.at_none h]; exact ⟨rfl, rfl, rfl, rfl⟩
  · rw [SP.at_due0 h rfl]
    refine ⟨rfl, rfl, rfl, ?_⟩
    cases l with
    | nil => exact absurd rfl h0
    | cons x t => rfl
theorem SetIs.lay {l0 : List Tx} (h : SetIs S k l0) (now : Int) (l : List Tx) (n : Nat) : SetIs (S.layS now k l 0 n) k l := by
  unfold SP.layS
  by_cases e : l = []
  · rw [if_pos e]
    refine .inl ⟨e, ?_⟩
    rcases h with ⟨rfl, h⟩ | ⟨h0, n, h⟩
    · rw [SP.at_none h]; exact h
    · rw [SP.at_due0 h rfl]; exact if_pos rfl
  · rw [if_neg e]; exact .inr ⟨e, n, if_pos rfl⟩
theorem layS_far {now : Int} {k j : Tx} (hjk : j ≠ k) (l : List Tx) (d : Int) (n : Nat) : (S.layS now k l d n) j = S j := by
  unfold SP.layS
  split
  · split
    · exact if_neg hjk
    · rfl
  · exact if_neg hjk
theorem SetIs.far {S' : SP} (h : SetIs S j l) (e : S' j = S j) : SetIs S' j l := by
  unfold SetIs at *; rw [e]; exact h
theorem layS_near (c : Cnt) (ok : Bool) (l : List Tx) : (c.layS ok l).num ≤ c.num + 1 ∧ (c.layS ok l).few ≤ c.few + 1 := by
  unfold Cnt.layS Cnt.touch Cnt.next
  split
  · split <;> exact ⟨by simp, by simp⟩
  · exact ⟨by simp, by simp⟩
end
section
variable {w : World} {q : List Nat} {p : Nat} {c : Cnt} {S : SP} {k : Tx}
/-- What a change makes of a key of sets. -/
def nextL (add : Bool) (l more : List Tx) : List Tx := if add then ofL (l ++ more) else lessL l more
def nextN (add : Bool) (l more : List Tx) : Int := if add then ((ofL (l ++ more)).length : Int) - ((ofL l).length : Int) else ((ofL l).length : Int) - ((lessL l more).length : Int)
def chgB (add : Bool) : Tx := if add then saddB else sremB
theorem asc_sub_len {a b : List Tx} (ha : Asc a) (h : ∀ x ∈ a, x ∈ b) : a.length ≤ b.length := by
  have hn : a.Nodup := by
    refine List.Pairwise.imp ?_ ha
    intro x y hxy e
    subst e
    exact ltB_ne hxy rfl
  exact hn.length_le_of_subset h
theorem asc_eq_of_len {a b : List Tx} (ha : Asc a) (hb : Asc b) (h : ∀ x ∈ a, x ∈ b) (hl : b.length ≤ a.length) : a = b := by
  refine ha.ext hb fun x => ⟨h x, fun hx => ?_⟩
  apply Classical.byContradiction
  intro hn
  have h1 : a.length ≤ (b.filter fun y => decide (y ≠ x)).length := asc_sub_len ha fun y hy => by
    rw [List.mem_filter]
    exact ⟨h y hy, decide_eq_true (fun e => hn (e ▸ hy))⟩
  have h2 : (b.filter fun y => decide (y ≠ x)).length < b.length := by
    have := List.length_filter_lt_length_iff_exists (p := fun y : Tx => decide (y ≠ x)) (l := b)
    exact this.2 ⟨x, hx, by simp⟩
  omega
theorem nextL_same (add : Bool) {l more : List Tx} (hl : Asc l) (h : ¬ 0 < nextN add l more) : nextL add l more = l := by
  have e := ofL_eq hl (l := l) (fun x => Iff.rfl)
  cases add with
  | true =>
    have h1 : ¬ 0 < ((ofL (l ++ more)).length : Int) - ((ofL l).length : Int) := h
    have h2 : ofL l = ofL (l ++ more) := asc_eq_of_len (ofL_asc _) (ofL_asc _) (fun x hx => by rw [ofL_mem] at *; simp [hx]) (by omega)
    exact h2.symm.trans e.symm
  | false =>
    have h1 : ¬ 0 < ((ofL l).length : Int) - ((lessL l more).length : Int) := h
    have h2 : lessL l more = ofL l := asc_eq_of_len (lessL_asc _ _) (ofL_asc _) (fun x hx => by rw [lessL_mem] at hx; rw [ofL_mem]; exact hx.1) (by omega)
    exact h2.trans e.symm
theorem serves_change (hq : q ≠ []) {l more : List Tx} (hk : SetIs S k l) (ha : Asc l) (add : Bool) (hs : ∀ x ∈ nextL add l more, x.length ≤ 1048576) (hl : l.length ≤ 274877906944) (hm : more.length ≤ 274877906944) (hc : c.num ≤ 1099511627770) (hf : c.few ≤ 1099511627770) {K : SP → Cnt → Prop}
    (hK : ∀ S' c', SetIs S' k (nextL add l more) → (∀ j, j ≠ k → S' j = S j) → c.near c' → K S' c') :
    Serves 43 w q p S c (chgB add) (k :: more) ⟨3, [], nextN add l more, []⟩ K := by
  intro o1 w1 cb m sv hj hm0 hB1 hcb hv
  obtain ⟨e1, e2, e3, e4⟩ := hk.at 0
  have key : K (S.chS 0 k (nextL add l more) (nextN add l more) (c.num + 1)) (c.chS (S.at 0 k).isSome (nextL add l more) (nextN add l more)) := by
    refine hK _ _ ?_ (fun j hj => ?_) ?_
    · unfold SP.chS
      split
      · rw [e3]; exact hk.lay 0 _ _
      · rename_i h0
        rw [nextL_same add ha h0]; exact hk
    · unfold SP.chS
      split
      · exact layS_far hj _ _ _
      · rfl
    · unfold Cnt.chS
      split
      · have := layS_near c (S.at 0 k).isSome (nextL add l more)
        exact ⟨by omega, by omega⟩
      · exact c.near_refl
  cases add with
  | true =>
    have := cadd_ok hj hq hm0 hcb (k := k) (more := more) (by simpa using hv) rfl rfl e2 (by rw [e1]; exact hs) (by rw [e1]; exact hl) hm (by omega) (by omega)
    rw [e1] at this
    exact this.mono fun e w' h => RepJ.repL h key
  | false =>
    have := crem_ok hj hq hm0 hcb (k := k) (more := more) (by simpa using hv) rfl rfl e2 (by rw [e1]; exact hs) (by rw [e1]; exact hl) hm (by omega) (by omega)
    rw [e1] at this
    exact this.mono fun e w' h => RepJ.repL h key
end
end Go.Proofs.YtoganolkgmilaaaGreatDoor
