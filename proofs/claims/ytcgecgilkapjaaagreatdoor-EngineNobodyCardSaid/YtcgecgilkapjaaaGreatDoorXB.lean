/- Entries of deadlines in their order: plain lists. No program is named. -/
import GoSem.Op.String
import Derived.Test.YtcgecgilkapjaaaGreatDoorXA
namespace Go.Proofs.YtcgecgilkapjaaaGreatDoor
theorem less_irrefl : ∀ a : List UInt8, Op.bytesLess a a = false
  | [] => rfl
  | x :: t => by unfold Op.bytesLess; simp [less_irrefl t]
theorem less_trans : ∀ a b c : List UInt8, Op.bytesLess a b = true → Op.bytesLess b c = true → Op.bytesLess a c = true
  | _, [], _, h, _ => by simp [Op.bytesLess] at h
  | _, _ :: _, [], _, h => by simp [Op.bytesLess] at h
  | [], _ :: _, _ :: _, _, _ => by simp [Op.bytesLess]
  | x :: a, y :: b, z :: c, h1, h2 => by
    have ih := less_trans a b c
    simp only [Op.bytesLess, Bool.or_eq_true, Bool.and_eq_true, decide_eq_true_eq, beq_iff_eq, UInt8.lt_iff_toNat_lt] at h1 h2 ⊢
    rcases h1 with h1 | ⟨rfl, h1⟩
    · rcases h2 with h2 | ⟨rfl, h2⟩
      · left; omega
      · left; exact h1
    · rcases h2 with h2 | ⟨rfl, h2⟩
      · left; exact h2
      · right; exact ⟨rfl, ih h1 h2⟩
theorem less_total : ∀ a b : List UInt8, Op.bytesLess a b = true ∨ a = b ∨ Op.bytesLess b a = true
  | [], [] => .inr (.inl rfl)
  | [], _ :: _ => .inl (by simp [Op.bytesLess])
  | _ :: _, [] => .inr (.inr (by simp [Op.bytesLess]))
  | x :: a, y :: b => by
    have ih := less_total a b
    simp only [Op.bytesLess, Bool.or_eq_true, Bool.and_eq_true, decide_eq_true_eq, beq_iff_eq, UInt8.lt_iff_toNat_lt, List.cons.injEq]
    rcases Nat.lt_trichotomy x.toNat y.toNat with h | h | h
    · exact .inl (.inl h)
    · have e : x = y := UInt8.toNat_inj.1 h
      subst e
      rcases ih with h1 | h1 | h1
      · exact .inl (.inr ⟨rfl, h1⟩)
      · exact .inr (.inl ⟨rfl, h1⟩)
      · exact .inr (.inr (.inr ⟨rfl, h1⟩))
    · exact .inr (.inr (.inl h))
def cmpB (a b : List UInt8) : Int := if Op.bytesLess a b then -1 else if !(Op.bytesLess a b || a == b) then 1 else 0
theorem cmpB_neg (a b : List UInt8) : cmpB a b < 0 ↔ Op.bytesLess a b = true := by
  unfold cmpB
  split
  · rename_i h; simp [h]
  · rename_i h; split <;> simp [h]
theorem cmpB_zero (a b : List UInt8) : cmpB a b = 0 ↔ a = b := by
  unfold cmpB
  split
  · rename_i h
    constructor
    · intro e; cases e
    · rintro rfl; rw [less_irrefl] at h; cases h
  · rename_i h
    split
    · rename_i h2
      constructor
      · intro e; cases e
      · rintro rfl; simp at h2
    · rename_i h2
      simp only [h, Bool.false_or, Bool.not_eq_true', Bool.not_eq_false, beq_iff_eq] at h2
      simp [h2]
abbrev Ent := Int × List UInt8
def entCmp (a b : Ent) : Int := if a.1 < b.1 then -1 else if b.1 < a.1 then 1 else cmpB a.2 b.2
def entLt (a b : Ent) : Bool := decide (entCmp a b < 0)
theorem entLt_iff (a b : Ent) : entLt a b = true ↔ a.1 < b.1 ∨ (a.1 = b.1 ∧ Op.bytesLess a.2 b.2 = true) := by
  unfold entLt entCmp
  rw [decide_eq_true_eq]
  split
  · rename_i h; simp [h]
  · rename_i h
    split
    · rename_i h2
      constructor
      · intro e; exact absurd e (by decide)
      · rintro (h3 | ⟨h3, _⟩) <;> omega
    · rename_i h2
      have : a.1 = b.1 := by omega
      rw [cmpB_neg]; simp [this]
theorem entCmp_zero (a b : Ent) : entCmp a b = 0 ↔ a = b := by
  unfold entCmp
  split
  · rename_i h
    constructor
    · intro e; cases e
    · rintro rfl; omega
  · split
    · constructor
      · intro e; cases e
      · rintro rfl; omega
    · rw [cmpB_zero]
      have : a.1 = b.1 := by omega
      constructor
      · intro h; exact Prod.ext this h
      · rintro rfl; rfl
theorem entLt_irrefl (a : Ent) : entLt a a = false := by
  rw [Bool.eq_false_iff, ne_eq, entLt_iff]
  rintro (h | ⟨_, h⟩)
  · omega
  · rw [less_irrefl] at h; cases h
theorem entLt_trans {a b c : Ent} (h1 : entLt a b = true) (h2 : entLt b c = true) : entLt a c = true := by
  rw [entLt_iff] at *
  rcases h1 with h1 | ⟨h1, h3⟩ <;> rcases h2 with h2 | ⟨h2, h4⟩
  · left; omega
  · left; omega
  · left; omega
  · right; exact ⟨by omega, less_trans _ _ _ h3 h4⟩
theorem entLt_total (a b : Ent) : entLt a b = true ∨ a = b ∨ entLt b a = true := by
  simp only [entLt_iff]
  rcases Int.lt_trichotomy a.1 b.1 with h | h | h
  · exact .inl (.inl h)
  · rcases less_total a.2 b.2 with h2 | h2 | h2
    · exact .inl (.inr ⟨h, h2⟩)
    · exact .inr (.inl (Prod.ext h h2))
    · exact .inr (.inr (.inr ⟨h.symm, h2⟩))
  · exact .inr (.inr (.inl h))
abbrev Rising (L : List Ent) : Prop := L.Pairwise fun a b => entLt a b = true
/-- How many stand ahead of e. -/
def posE (L : List Ent) (e : Ent) : Nat := (L.takeWhile (entLt · e)).length
theorem posE_le (L : List Ent) (e : Ent) : posE L e ≤ L.length := by unfold posE; exact (List.takeWhile_prefix _).length_le
theorem posE_cons (x : Ent) (L : List Ent) (e : Ent) : posE (x :: L) e = if entLt x e then posE L e + 1 else 0 := by
  unfold posE
  rw [List.takeWhile_cons]
  split <;> simp
theorem posE_lt {L : List Ent} (e : Ent) {j : Nat} {x : Ent} (hj : j < posE L e) (hx : L[j]? = some x) : entLt x e = true := by
  induction L generalizing j with
  | nil => cases hx
  | cons y t ih =>
    rw [posE_cons] at hj
    split at hj
    · rename_i hy
      cases j with
      | zero => simp at hx; subst hx; exact hy
      | succ j => exact ih (j := j) (by omega) (by simpa using hx)
    · omega
theorem posE_ge {L : List Ent} (hs : Rising L) (e : Ent) {j : Nat} {x : Ent} (hj : posE L e ≤ j) (hx : L[j]? = some x) : entLt x e = false := by
  induction L generalizing j with
  | nil => cases hx
  | cons y t ih =>
    rw [posE_cons] at hj
    rw [Rising, List.pairwise_cons] at hs
    split at hj
    · cases j with
      | zero => omega
      | succ j => exact ih hs.2 (j := j) (by omega) (by simpa using hx)
    · rename_i hy
      cases j with
      | zero => simp at hx; subst hx; simpa using hy
      | succ j =>
        have hx' : t[j]? = some x := by simpa using hx
        have h1 := hs.1 x (List.mem_of_getElem? hx')
        cases h : entLt x e with
        | false => rfl
        | true => exact absurd (entLt_trans h1 h) (by simpa using hy)
theorem posE_mem {L : List Ent} (hs : Rising L) {e : Ent} (he : e ∈ L) : L[posE L e]? = some e := by
  induction L with
  | nil => cases he
  | cons y t ih =>
    rw [Rising, List.pairwise_cons] at hs
    rw [posE_cons]
    rcases List.mem_cons.1 he with rfl | he
    · rw [entLt_irrefl]; rfl
    · rw [hs.1 e he]
      simpa using ih hs.2 he
def insE (L : List Ent) (e : Ent) : List Ent := L.take (posE L e) ++ e :: L.drop (posE L e)
def delE (L : List Ent) (e : Ent) : List Ent := L.take (posE L e) ++ L.drop (posE L e + 1)
theorem delE_mem {L : List Ent} (hs : Rising L) {e : Ent} (he : e ∈ L) (x : Ent) : x ∈ delE L e ↔ x ∈ L ∧ x ≠ e := by
  induction L with
  | nil => cases he
  | cons y t ih =>
    rw [Rising, List.pairwise_cons] at hs
    unfold delE
    rw [posE_cons]
    rcases List.mem_cons.1 he with rfl | he2
    · rw [entLt_irrefl]
      simp only [Bool.false_eq_true, if_false, List.take_zero, List.nil_append, Nat.zero_add, List.drop_succ_cons, List.drop_zero, List.mem_cons]
      constructor
      · intro h
        refine ⟨.inr h, ?_⟩
        rintro rfl
        have := hs.1 x h
        rw [entLt_irrefl] at this; cases this
      · rintro ⟨h | h, h2⟩
        · exact absurd h h2
        · exact h
    · rw [hs.1 e he2]
      have ih2 := ih hs.2 he2
      unfold delE at ih2
      simp only [if_true, List.take_succ_cons, List.cons_append, List.drop_succ_cons, List.mem_cons]
      rw [ih2]
      constructor
      · rintro (rfl | ⟨h1, h2⟩)
        · refine ⟨.inl rfl, ?_⟩
          rintro rfl
          have := hs.1 _ he2
          rw [entLt_irrefl] at this; cases this
        · exact ⟨.inr h1, h2⟩
      · rintro ⟨rfl | h1, h2⟩
        · exact .inl rfl
        · exact .inr ⟨h1, h2⟩
theorem delE_rising {L : List Ent} (hs : Rising L) (e : Ent) : Rising (delE L e) := by
  unfold delE
  refine List.Pairwise.sublist ?_ hs
  conv => rhs; rw [← List.take_append_drop (posE L e) L]
  refine List.Sublist.append_left ?_ _
  rw [← List.drop_drop]
  exact List.drop_sublist _ _
theorem delE_len {L : List Ent} (hs : Rising L) {e : Ent} (he : e ∈ L) : (delE L e).length + 1 = L.length := by
  have h := posE_mem hs he
  have := (List.getElem?_eq_some_iff.1 h).1
  unfold delE
  simp
  omega
theorem insE_mem (L : List Ent) (e x : Ent) : x ∈ insE L e ↔ x = e ∨ x ∈ L := by
  unfold insE
  rw [List.mem_append, List.mem_cons]
  conv => rhs; rw [← List.take_append_drop (posE L e) L, List.mem_append]
  constructor
  · rintro (h | h | h)
    · exact .inr (.inl h)
    · exact .inl h
    · exact .inr (.inr h)
  · rintro (h | h | h)
    · exact .inr (.inl h)
    · exact .inl h
    · exact .inr (.inr h)
theorem insE_len (L : List Ent) (e : Ent) : (insE L e).length = L.length + 1 := by
  have := posE_le L e
  unfold insE
  simp
  omega
theorem insE_cons (y : Ent) (t : List Ent) (e : Ent) : insE (y :: t) e = if entLt y e then y :: insE t e else e :: y :: t := by
  unfold insE
  rw [posE_cons]
  split <;> simp
theorem insE_rising {L : List Ent} (hs : Rising L) {e : Ent} (he : e ∉ L) : Rising (insE L e) := by
  induction L with
  | nil => simp [insE, posE, Rising]
  | cons y t ih =>
    rw [Rising, List.pairwise_cons] at hs
    rw [insE_cons]
    have h1 : e ≠ y := fun h => he (by simp [h])
    have h2 : e ∉ t := fun h => he (by simp [h])
    split
    · rename_i hy
      rw [Rising, List.pairwise_cons]
      refine ⟨fun z hz => ?_, ih hs.2 h2⟩
      rcases (insE_mem t e z).1 hz with rfl | hz
      · exact hy
      · exact hs.1 z hz
    · rename_i hy
      have hey : entLt e y = true := by
        rcases entLt_total e y with h | h | h
        · exact h
        · exact absurd h h1
        · exact absurd h hy
      rw [Rising, List.pairwise_cons, List.pairwise_cons]
      refine ⟨fun z hz => ?_, hs⟩
      rcases List.mem_cons.1 hz with rfl | hz
      · exact hey
      · exact entLt_trans hey (hs.1 z hz)
end Go.Proofs.YtcgecgilkapjaaaGreatDoor
/- The index of deadlines: what it tells, and the entries in their order. Plain lists, and the relation to the memory. -/
namespace Go.Proofs.YtcgecgilkapjaaaGreatDoor
open Go Go.RowKit
theorem mfind_put (kvs : KV) (k : List UInt8) (v : Value) (j : List UInt8) : mfind (mput kvs k v) j = if j = k then some v else mfind kvs j := by
  induction kvs with
  | nil => unfold mput mfind mfind; rfl
  | cons p t ih =>
    obtain ⟨q, u⟩ := p
    unfold mput
    by_cases hq : k = q
    · subst hq
      rw [if_pos rfl]
      unfold mfind
      by_cases hj : j = k
      · rw [if_pos hj, if_pos hj]
      · rw [if_neg hj, if_neg hj, if_neg hj]
    · rw [if_neg hq]
      unfold mfind
      rw [ih]
      by_cases hj : j = q
      · subst hj; rw [if_pos rfl, if_pos rfl, if_neg (fun e => hq e.symm)]
      · rw [if_neg hj, if_neg hj]
theorem mfind_none {kvs : KV} {k : List UInt8} (h : k ∉ kvs.map Prod.fst) : mfind kvs k = none := by
  induction kvs with
  | nil => rfl
  | cons p t ih =>
    obtain ⟨q, u⟩ := p
    simp only [List.map_cons, List.mem_cons, not_or] at h
    unfold mfind
    rw [if_neg h.1, ih h.2]
theorem mfind_mem {kvs : KV} {k : List UInt8} {u : Value} (h : mfind kvs k = some u) : k ∈ kvs.map Prod.fst := by
  by_cases hm : k ∈ kvs.map Prod.fst
  · exact hm
  · rw [mfind_none hm] at h; cases h
theorem mfind_del {kvs : KV} (hn : (kvs.map Prod.fst).Nodup) (k j : List UInt8) : mfind (mdel kvs k) j = if j = k then none else mfind kvs j := by
  induction kvs with
  | nil => unfold mdel mfind; simp
  | cons p t ih =>
    obtain ⟨q, u⟩ := p
    simp only [List.map_cons, List.nodup_cons] at hn
    unfold mdel
    by_cases hq : k = q
    · subst hq
      rw [if_pos rfl]
      by_cases hj : j = k
      · subst hj; rw [if_pos rfl, mfind_none hn.1]
      · rw [if_neg hj]
        conv => rhs; unfold mfind
        rw [if_neg hj]
    · rw [if_neg hq]
      unfold mfind
      rw [ih hn.2]
      by_cases hj : j = q
      · subst hj; rw [if_pos rfl, if_pos rfl, if_neg (fun e => hq e.symm)]
      · rw [if_neg hj, if_neg hj]
theorem keys_put (kvs : KV) (k : List UInt8) (v : Value) : (mput kvs k v).map Prod.fst = if k ∈ kvs.map Prod.fst then kvs.map Prod.fst else kvs.map Prod.fst ++ [k] := by
  induction kvs with
  | nil => rfl
  | cons p t ih =>
    obtain ⟨q, u⟩ := p
    unfold mput
    by_cases hq : k = q
    · subst hq; simp
    · rw [if_neg hq]
      simp only [List.map_cons, ih, List.mem_cons, hq, false_or]
      split <;> simp
theorem nodup_put {kvs : KV} (hn : (kvs.map Prod.fst).Nodup) (k : List UInt8) (v : Value) : ((mput kvs k v).map Prod.fst).Nodup := by
  rw [keys_put]
  split
  · exact hn
  · rename_i h
    rw [List.nodup_append]
    refine ⟨hn, by simp, fun a ha b hb => ?_⟩
    rw [List.mem_singleton] at hb
    subst hb
    intro e; subst e; exact h ha
theorem keys_del (kvs : KV) (k : List UInt8) : ((mdel kvs k).map Prod.fst).Sublist (kvs.map Prod.fst) := by
  induction kvs with
  | nil => exact List.Sublist.refl _
  | cons p t ih =>
    obtain ⟨q, u⟩ := p
    unfold mdel
    split
    · exact List.sublist_cons_self _ _
    · exact List.Sublist.cons_cons _ ih
abbrev TK := List UInt8 → Option Int
def TK.put (T : TK) (k : List UInt8) (t : Int) : TK := fun j => if j = k then some t else T j
def TK.del (T : TK) (k : List UInt8) : TK := fun j => if j = k then none else T j
theorem TK.del_none {T : TK} {k : List UInt8} (h : T k = none) : T.del k = T := by
  funext j; unfold TK.del; split
  · rename_i e; rw [e, h]
  · rfl
def entC (e : Ent) : List Value := [.int .i64 e.1, txt e.2]
def entsC (L : List Ent) : List Value := L.flatMap entC
theorem entsC_app (a b : List Ent) : entsC (a ++ b) = entsC a ++ entsC b := List.flatMap_append
theorem entsC_len (L : List Ent) : (entsC L).length = L.length * 2 := by
  unfold entsC
  induction L with
  | nil => rfl
  | cons x t ih => simp only [List.flatMap_cons, List.length_append, List.length_cons, ih, entC]; simp; omega
theorem entsC_one (L : List Ent) : ∀ u ∈ entsC L, u.oneCell' = true := by
  intro u hu
  obtain ⟨x, _, hx⟩ := List.mem_flatMap.1 hu
  simp [entC] at hx
  rcases hx with rfl | rfl <;> rfl
theorem entsC_get (L : List Ent) : ∀ (j : Nat) (e : Ent), L[j]? = some e → (entsC L)[j * 2]? = some (.int .i64 e.1) ∧ (entsC L)[j * 2 + 1]? = some (txt e.2) := by
  induction L with
  | nil => intro j e h; cases h
  | cons x t ih =>
    intro j e h
    cases j with
    | zero => simp at h; subst h; exact ⟨rfl, rfl⟩
    | succ j =>
      have := ih j e (by simpa using h)
      have e1 : entsC (x :: t) = (.int .i64 x.1) :: txt x.2 :: entsC t := rfl
      rw [e1, show (j + 1) * 2 = j * 2 + 1 + 1 by omega]
      simpa using this
theorem entsC_take (L : List Ent) (k : Nat) : (entsC L).take (k * 2) = entsC (L.take k) := by
  induction L generalizing k with
  | nil => simp [entsC]
  | cons x t ih =>
    cases k with
    | zero => simp [entsC]
    | succ k =>
      have e1 : entsC (x :: t) = (.int .i64 x.1) :: txt x.2 :: entsC t := rfl
      rw [e1, show (k + 1) * 2 = k * 2 + 1 + 1 by omega, List.take_succ_cons, List.take_succ_cons, ih, List.take_succ_cons]
      rfl
theorem entsC_drop (L : List Ent) (k : Nat) : (entsC L).drop (k * 2) = entsC (L.drop k) := by
  induction L generalizing k with
  | nil => simp [entsC]
  | cons x t ih =>
    cases k with
    | zero => simp
    | succ k =>
      have e1 : entsC (x :: t) = (.int .i64 x.1) :: txt x.2 :: entsC t := rfl
      rw [e1, show (k + 1) * 2 = k * 2 + 1 + 1 by omega, List.drop_succ_cons, List.drop_succ_cons, ih, List.drop_succ_cons]
/-- The entries in order are what the ticks tell. -/
def InStep (T : TK) (L : List Ent) : Prop := ∀ e : Ent, e ∈ L ↔ T e.2 = some e.1
theorem InStep.del {T : TK} {L : List Ent} (h : InStep T L) (hs : Rising L) {k : List UInt8} {t : Int} (hk : T k = some t) : InStep (T.del k) (delE L (t, k)) := by
  intro e
  rw [delE_mem hs ((h (t, k)).2 hk), h e]
  unfold TK.del
  by_cases hj : e.2 = k
  · rw [if_pos hj]
    constructor
    · rintro ⟨h1, h2⟩
      rw [hj, hk] at h1
      exact absurd (Prod.ext (Option.some.inj h1).symm hj) h2
    · intro h1; cases h1
  · rw [if_neg hj]
    exact ⟨fun h => h.1, fun h => ⟨h, fun he => hj (by rw [he])⟩⟩
theorem InStep.put {T : TK} {L : List Ent} (h : InStep T L) {k : List UInt8} (t : Int) (hk : T k = none) : InStep (T.put k t) (insE L (t, k)) := by
  intro e
  rw [insE_mem, h e]
  unfold TK.put
  by_cases hj : e.2 = k
  · rw [if_pos hj]
    constructor
    · rintro (h1 | h1)
      · rw [h1]
      · rw [hj, hk] at h1; cases h1
    · intro h1; exact .inl (Prod.ext (Option.some.inj h1).symm hj)
  · rw [if_neg hj]
    exact ⟨fun h => h.resolve_left (fun he => hj (by rw [he])), fun h => .inr h⟩
theorem TK.put_del (T : TK) (k : List UInt8) (t : Int) : (T.del k).put k t = T.put k t := by
  funext j; unfold TK.put TK.del; split <;> rfl
/-- All blocks from base on are to have role r. -/
def Roles.from (o : Roles) (base : Nat) (r : List Nat) : Roles := fun b => if base ≤ b then r else o b
theorem Roles.from_new {o : Roles} {base b : Nat} {r : List Nat} (h : base ≤ b) : o.from base r b = r := if_pos h
theorem Roles.from_old {o : Roles} {base b : Nat} {r : List Nat} (h : b < base) : o.from base r b = o b := if_neg (by omega)
theorem Stp.from0 (s : List Nat) (o : Roles) (w : World) (r : List Nat) : Stp s o w (o.from w.heap.size r) w := ⟨rfl, rfl, rfl, Nat.le_refl _, fun _ hb => Roles.from_old hb, fun _ _ _ => rfl⟩
section
variable {o : Roles} {w : World} {s : List Nat} {kvs : KV}
theorem Blk.from {b : Nat} {cs : Array Value} {T : TypeId} {r : List Nat} (h : Blk o w s b cs T) : Blk (o.from w.heap.size r) w s b cs T := ⟨h.heap, by rw [Roles.from_old h.lt]; exact h.role⟩
theorem MBlk.from {b : Nat} {r : List Nat} (h : MBlk o w s b kvs) : MBlk (o.from w.heap.size r) w s b kvs := ⟨h.heap, by rw [Roles.from_old h.lt]; exact h.role⟩
theorem Row.from {e : TypeId} {sz n : Nat} {v : Value} {xs : List Value} {r : List Nat} (h : Row o w s e sz v n xs) : Row (o.from w.heap.size r) w s e sz v n xs := ⟨h.own, fun g hg => by rw [Roles.from_old (h.lt g hg)]; exact h.role g hg⟩
end
/-- The memory of an index, at roles below r; at most n entries. -/
structure DueR (o : Roles) (w : World) (r : List Nat) (d : Nat) (T : TK) (n : Nat) (m2 : Nat) (tks : KV) (ov : Value) (L : List Ent) : Prop where
  blk : Blk o w r d #[.map (some m2), ov] 115
  ticks : MBlk o w (r ++ [0]) m2 tks
  ord : Row o w (r ++ [1]) 173 2 ov L.length (entsC L)
  nodup : (tks.map Prod.fst).Nodup
  rise : Rising L
  look : ∀ k, mfind tks k = (T k).map fun t => .int .i64 t
  step : InStep T L
  few : L.length ≤ n
  lim : ∀ k t, T k = some t → 0 ≤ t ∧ t ≤ 9007199254740992
def DueI (o : Roles) (w : World) (r : List Nat) (d : Nat) (T : TK) (n : Nat) : Prop := ∃ m2 tks ov L, DueR o w r d T n m2 tks ov L
section
variable {o o' : Roles} {w w' : World} {r s : List Nat} {d n m2 : Nat} {T : TK} {tks : KV} {ov : Value} {L : List Ent}
theorem Row.below' {e : TypeId} {sz n : Nat} {v : Value} {xs : List Value} (h : Row o w s e sz v n xs) (hB : Below w.heap.size w w') : Row o w' s e sz v n xs :=
  ⟨ownsRow_agree h.own fun g hg => hB.block g (h.lt g hg), h.role⟩
theorem DueR.stay (h : DueR o w r d T n m2 tks ov L) (hb : ∀ b, r <+: o b → b < w.heap.size → w'.heap[b]? = w.heap[b]?) : DueR o w' r d T n m2 tks ov L := by
  refine ⟨⟨?_, h.blk.role⟩, ⟨?_, h.ticks.role⟩, ⟨ownsRow_agree h.ord.own fun g hg => hb g (by rw [h.ord.role g hg]; exact List.prefix_append _ _) (h.ord.lt g hg), h.ord.role⟩, h.nodup, h.rise, h.look, h.step, h.few, h.lim⟩
  · rw [hb d (by rw [h.blk.role]; exact List.prefix_refl _) h.blk.lt]; exact h.blk.heap
  · rw [hb m2 (by rw [h.ticks.role]; exact List.prefix_append _ _) h.ticks.lt]; exact h.ticks.heap
theorem DueI.stay (h : DueI o w r d T n) (hb : ∀ b, r <+: o b → b < w.heap.size → w'.heap[b]? = w.heap[b]?) : DueI o w' r d T n := by
  obtain ⟨m2, tks, ov, L, h⟩ := h; exact ⟨m2, tks, ov, L, h.stay hb⟩
/-- The same under roles that agree on what is there. -/
theorem DueI.roles (h : DueI o w r d T n) (ho : ∀ b, b < w.heap.size → o' b = o b) : DueI o' w r d T n := by
  obtain ⟨m2, tks, ov, L, h⟩ := h
  exact ⟨m2, tks, ov, L, ⟨h.blk.heap, by rw [ho d h.blk.lt]; exact h.blk.role⟩, ⟨h.ticks.heap, by rw [ho m2 h.ticks.lt]; exact h.ticks.role⟩, ⟨h.ord.own, fun g hg => by rw [ho g (h.ord.lt g hg)]; exact h.ord.role g hg⟩, h.nodup, h.rise, h.look, h.step, h.few, h.lim⟩
theorem DueR.keep (h : DueR o w r d T n m2 tks ov L) (st : Stp s o w o' w') (hn : Apart s r) : DueR o' w' r d T n m2 tks ov L :=
  ⟨h.blk.keep st (by simpa using hn []), h.ticks.keep st (hn _), h.ord.keep st (hn _), h.nodup, h.rise, h.look, h.step, h.few, h.lim⟩
theorem DueR.below (h : DueR o w r d T n m2 tks ov L) (hB : Below w.heap.size w w') : DueR o w' r d T n m2 tks ov L :=
  ⟨h.blk.below hB, h.ticks.below hB, h.ord.below' hB, h.nodup, h.rise, h.look, h.step, h.few, h.lim⟩
theorem DueI.keep (h : DueI o w r d T n) (st : Stp s o w o' w') (hn : Apart s r) : DueI o' w' r d T n := by
  obtain ⟨m2, tks, ov, L, h⟩ := h; exact ⟨m2, tks, ov, L, h.keep st hn⟩
theorem DueI.below (h : DueI o w r d T n) (hB : Below w.heap.size w w') : DueI o w' r d T n := by
  obtain ⟨m2, tks, ov, L, h⟩ := h; exact ⟨m2, tks, ov, L, h.below hB⟩
theorem DueI.mono {n' : Nat} (h : DueI o w r d T n) (hn : n ≤ n') : DueI o w r d T n' := by
  obtain ⟨m2, tks, ov, L, h⟩ := h; exact ⟨m2, tks, ov, L, ⟨h.blk, h.ticks, h.ord, h.nodup, h.rise, h.look, h.step, Nat.le_trans h.few hn, h.lim⟩⟩
end
end Go.Proofs.YtcgecgilkapjaaaGreatDoor
namespace Go.Proofs.YtcgecgilkapjaaaGreatDoor
open Go Go.RowKit
/-! The space: what a key holds, with its deadline, and the relation to the memory (no mark). -/
structure Hd where
  v : VV
  due : Int
  ver : Nat
abbrev SP := List UInt8 → Option Hd
def Hd.over (h : Hd) (now : Int) : Bool := h.due != 0 && decide (h.due ≤ now)
def SP.at (S : SP) (now : Int) (k : List UInt8) : Option Hd := (S k).filter fun h => !h.over now
theorem SP.at_some {S : SP} {now : Int} {k : List UInt8} {h : Hd} (e : S.at now k = some h) : S k = some h ∧ h.over now = false := by
  unfold SP.at at e
  rw [Option.filter_eq_some_iff] at e
  exact ⟨e.1, by simpa using e.2⟩
theorem SP.at_none {S : SP} {now : Int} {k : List UInt8} (h : S k = none) : S.at now k = none := by
  unfold SP.at; rw [h]; rfl
theorem SP.at_over {S : SP} {now : Int} {k : List UInt8} {h : Hd} (hS : S k = some h) : S.at now k = if h.over now = true then none else some h := by
  unfold SP.at; rw [hS]
  cases e : h.over now <;> simp [Option.filter, e]
abbrev hdV (h : Hd) (l f r : Value) : Value := .agg #[.int .i64 h.v.kind, .string ⟨h.v.text.toArray⟩, l, f, r, .int .i64 h.due, .int .u64 h.ver]
def HdIs (A : Nat → Prop) (w : World) : Option Value → Option Hd → Prop
  | none, none => True
  | some u, some h => ∃ l f r, u = hdV h l f r ∧ Val3 A w h.v l f r ∧ VSmall h.v
  | _, _ => False
section
variable {A B : Nat → Prop} {o o' : Roles} {w w' : World} {q : List Nat} {x : Option Value} {y : Option Hd}
theorem HdIs.map {B : Nat → Prop} (h : HdIs A w x y) (hv : ∀ V l f r, Val3 A w V l f r → Val3 B w' V l f r) : HdIs B w' x y := by
  cases x with
  | none => cases y with
    | none => exact trivial
    | some y => exact h
  | some x => cases y with
    | none => exact h
    | some y => obtain ⟨l, f, r, h1, h2, h3⟩ := h; exact ⟨l, f, r, h1, hv _ _ _ _ h2, h3⟩
theorem HdIs.none_iff (h : HdIs A w x y) : x = none ↔ y = none := by
  cases x <;> cases y <;> simp_all [HdIs]
end
abbrev spC (m d c a : Nat) : Array Value := #[.map (some m), .pointer (some ⟨d, 0, none⟩), .int .u64 c, .bool false, .map none, .int .u64 a, .slice none 0 0]
structure Cnt where
  num : Nat
  few : Nat
def Cnt.next (c : Cnt) : Cnt := ⟨c.num + 1, c.few + 1⟩
/-- The deadlines that there are. -/
def SP.ticks (S : SP) : TK := fun k => (S k).bind fun h => if h.due = 0 then none else some h.due
/-- Block p is a space with no mark that holds S; c.num touches so far, at most c.few deadlines. -/
structure SpR (o : Roles) (w : World) (q : List Nat) (p m d a : Nat) (kvs : KV) (S : SP) (c : Cnt) : Prop where
  blk : Blk o w q p (spC m d c.num a) 76
  keys : MBlk o w (q ++ [0]) m kvs
  nodup : (kvs.map Prod.fst).Nodup
  due : DueI o w (q ++ [1]) d S.ticks c.few
  vals : ∀ k, HdIs (fun b => o b = q ++ [3]) w (mfind kvs k) (S k)
  lim : ∀ k h, S k = some h → 0 ≤ h.due ∧ h.due ≤ 9007199254740992
def SpI (o : Roles) (w : World) (q : List Nat) (p : Nat) (S : SP) (c : Cnt) : Prop := ∃ m d a kvs, SpR o w q p m d a kvs S c
theorem ap_tail {q : List Nat} {a b : Nat} (h : a ≠ b) : Apart (q ++ [a]) (q ++ [b]) := (Apart.head h [] []).both q
section
variable {o o' : Roles} {w w' : World} {q s : List Nat} {p m d a : Nat} {c : Cnt} {kvs : KV} {S : SP}
theorem SpR.keep (h : SpR o w q p m d a kvs S c) (st : Stp s o w o' w') (hn : Apart s q) : SpR o' w' q p m d a kvs S c :=
  ⟨h.blk.keep st (by simpa using hn []), h.keys.keep st (hn _), h.nodup, h.due.keep st (hn.more _), fun k => (h.vals k).map fun _ _ _ _ hv => hv.keep st (hn _), h.lim⟩
theorem SpI.keep (h : SpI o w q p S c) (st : Stp s o w o' w') (hn : Apart s q) : SpI o' w' q p S c := by
  obtain ⟨m, d, a, kvs, h⟩ := h
  exact ⟨m, d, a, kvs, h.keep st hn⟩
theorem SpR.below (h : SpR o w q p m d a kvs S c) (hB : Below w.heap.size w w') : SpR o w' q p m d a kvs S c :=
  ⟨h.blk.below hB, h.keys.below hB, h.nodup, h.due.below hB, fun k => (h.vals k).map fun _ _ _ _ hv => hv.below hB, h.lim⟩
theorem SpI.below (h : SpI o w q p S c) (hB : Below w.heap.size w w') : SpI o w' q p S c := by
  obtain ⟨m, d, a, kvs, h⟩ := h
  exact ⟨m, d, a, kvs, h.below hB⟩
theorem SpI.drewN (h : SpI o w q p S c) (k : Nat) : SpI o (w.drewN k) q p S c := h.below (below_drewN (Below.refl _ _) k)
end
theorem run_mk {P : Program} (t : TypeId) (w : World) : (Instr.makeMap t none).run P w = .ok (.map (some w.heap.size)) (w.alloc (.map #[] 0)) := by
  simp [Instr.makeMap]
set_option maxRecDepth 10000 in
theorem dueNew_ok (w : World) : Calls Tryz.prog 38 #[] w fun e w' => e = .returned (.pointer (some ⟨w.heap.size + 1, 0, none⟩)) ∧ w' = (w.alloc (.map #[] 0)).alloc (.cells #[.map (some w.heap.size), .slice none 0 0] 115) := by
  have hmk := run_mk (P := Tryz.prog) 89
  go_enter Tryz.func38, Tryz.ntmps38
  go_wp2
  go_ret
  exact ⟨by simp, rfl⟩
set_option maxRecDepth 10000 in
theorem new_ok (o : Roles) (w : World) (q : List Nat) : Calls Tryz.prog 12 #[] w fun e w' => ∃ p o', e = .returned (.pointer (some ⟨p, 0, none⟩)) ∧ SpI o' w' q p (fun _ => none) ⟨0, 0⟩ ∧ Stp q o w o' w' := by
  have hmk := run_mk (P := Tryz.prog) 71
  go_enter Tryz.func12, Tryz.ntmps12
  go_wp2_with fail
  refine (dueNew_ok _).mono ?_; rintro e w1 ⟨rfl, rfl⟩
  go_wp2_with fail
  go_ret
  have h0 : (w.alloc (.map #[] 0)).heap.size = w.heap.size + 1 := by simp
  have hm := MBlk.new o w (q ++ [0]) w.heap.size rfl
  have s1 := (Stp.refl q o w).alloc (r' := q ++ [0]) (.map #[] 0) w.heap.size rfl
  have hm2 := MBlk.new (o.put w.heap.size (q ++ [0])) (w.alloc (.map #[] 0)) (q ++ [1] ++ [0]) (w.heap.size + 1) h0.symm
  have s2 := s1.alloc (r' := q ++ [1] ++ [0]) (.map #[] 0) (w.heap.size + 1) h0.symm
  have hm' := hm.alloc (.map #[] 0) (w.heap.size + 1) (q ++ [1] ++ [0]) h0.symm
  have h1 : ((w.alloc (.map #[] 0)).alloc (.map #[] 0)).heap.size = w.heap.size + 2 := by simp
  have hd := Blk.new ((o.put w.heap.size (q ++ [0])).put (w.heap.size + 1) (q ++ [1] ++ [0])) ((w.alloc (.map #[] 0)).alloc (.map #[] 0)) (q ++ [1]) #[.map (some (w.heap.size + 1)), .slice none 0 0] 115 (w.heap.size + 2) h1.symm
  have s3 := s2.alloc (r' := q ++ [1]) (.cells #[.map (some (w.heap.size + 1)), .slice none 0 0] 115) (w.heap.size + 2) h1.symm
  have hm'' := hm'.alloc (.cells #[.map (some (w.heap.size + 1)), .slice none 0 0] 115) (w.heap.size + 2) (q ++ [1]) h1.symm
  have hm2' := hm2.alloc (.cells #[.map (some (w.heap.size + 1)), .slice none 0 0] 115) (w.heap.size + 2) (q ++ [1]) h1.symm
  have h2 : (((w.alloc (.map #[] 0)).alloc (.map #[] 0)).alloc (.cells #[.map (some (w.heap.size + 1)), .slice none 0 0] 115)).heap.size = w.heap.size + 3 := by simp
  have hp := Blk.new (((o.put w.heap.size (q ++ [0])).put (w.heap.size + 1) (q ++ [1] ++ [0])).put (w.heap.size + 2) (q ++ [1])) (((w.alloc (.map #[] 0)).alloc (.map #[] 0)).alloc (.cells #[.map (some (w.heap.size + 1)), .slice none 0 0] 115)) q (spC w.heap.size (w.heap.size + 2) 0 0) 76 (w.heap.size + 3) h2.symm
  have hdi := (hd.alloc (.cells (spC w.heap.size (w.heap.size + 2) 0 0) 76) (w.heap.size + 3) q h2.symm)
  refine ⟨w.heap.size + 3, _, rfl, ⟨w.heap.size, w.heap.size + 2, 0, [], hp, hm''.alloc _ _ q h2.symm, List.nodup_nil, ⟨w.heap.size + 1, [], _, [], hdi, hm2'.alloc _ _ q h2.symm, Row.nil _ _ _ _ _, List.nodup_nil, List.Pairwise.nil, fun k => rfl, fun e => ?_, Nat.le_refl _, fun k t ht => ?_⟩, fun k => trivial, fun k h hh => by cases hh⟩, s3.alloc (r' := q) _ (w.heap.size + 3) h2.symm⟩
  · unfold SP.ticks; simp
  · unfold SP.ticks at ht; simp at ht
end Go.Proofs.YtcgecgilkapjaaaGreatDoor
namespace Go.Proofs.YtcgecgilkapjaaaGreatDoor
open Go Go.RowKit
abbrev zHd : Value := .agg #[.int .i64 0, .string ⟨#[]⟩, .slice none 0 0, .slice none 0 0, .slice none 0 0, .int .i64 0, .int .u64 0]
abbrev zVal : Value := .agg #[.int .i64 0, .string ⟨#[]⟩, .slice none 0 0, .slice none 0 0, .slice none 0 0]
theorem infoHd : (Tryz.prog.info? 88).map (fun i => (i.zero, i.size, i.bytes)) = some (some zHd, 7, 112) := by kernel_rfl
theorem zeroHd (w : World) : (zeroValue 88).run Tryz.prog w = .ok zHd w := by
  obtain ⟨i, hi, hz, _, _⟩ := info_parts infoHd
  simp [zeroValue, typeInfo, hi, hz]
set_option maxRecDepth 10000 in
theorem over_ok (w : World) (d now : Int) : Calls Tryz.prog 102 #[.int .i64 d, .int .i64 now] w fun e w' => e = .returned (.bool (d != 0 && decide (d ≤ now))) ∧ w' = w := by
  rcases h0 : (d == 0) with _ | _
  · have h1 : (d != 0) = true := by rw [bne, h0]; rfl
    rcases h2 : decide (d ≤ now) with _ | _
    · go_enter Tryz.func102, Tryz.ntmps102
      go_wp2
      go_ret
      exact ⟨by rw [h1]; rfl, rfl⟩
    · go_enter Tryz.func102, Tryz.ntmps102
      go_wp2
      go_ret
      exact ⟨by rw [h1]; rfl, rfl⟩
  · have h1 : (d != 0) = false := by rw [bne, h0]; rfl
    go_enter Tryz.func102, Tryz.ntmps102
    go_wp2
    go_ret
    exact ⟨by rw [h1]; rfl, rfl⟩
section
variable {o : Roles} {w : World} {q : List Nat} {p : Nat} {c : Cnt} {S : SP}
set_option maxRecDepth 10000 in
set_option maxHeartbeats 1000000 in
theorem seen_none (h : SpI o w q p S c) (k : List UInt8) (now : Int) (hS : S k = none) : Calls Tryz.prog 311 #[.pointer (some ⟨p, 0, none⟩), txt k, .int .i64 now] w fun e w' => e = .returned (.tuple #[zHd, .bool false]) ∧ Below w.heap.size w w' := by
  obtain ⟨m, d, a, kvs, h⟩ := h
  have hm := (h.vals k).none_iff.2 hS
  have hlk := run_look (P := Tryz.prog) (h.keys.alloc (.cells #[.int .i64 0, .string ⟨#[]⟩, .slice none 0 0, .slice none 0 0, .slice none 0 0, .int .i64 0, .int .u64 0] 88) w.heap.size [] rfl) Tryz.underlying71 Tryz.underlying9 k true (zeroHd _)
  rw [hm] at hlk
  have hc := h.blk.cell
  have hl := h.blk.lt
  clear h hm hS
  unfold txt at *
  simp only [Option.getD_none, Option.isSome_none, if_true] at hlk
  go_enter Tryz.func311, Tryz.ntmps311
  go_wp2_with fail
  exact bodyPost_ret (v := .tuple #[zHd, .bool false]) (by simp [results, Tryz.results311, go_sem]) rfl ⟨rfl, ((Below.refl _ _).alloc (Nat.le_refl _) _).alloc (by simp) _⟩
def SeenDid (w : World) (h : Hd) (b : Bool) (l f r : Value) (e : Ending) (w' : World) : Prop := e = .returned (.tuple #[if b then hdV h l f r else zHd, .bool b]) ∧ Below w.heap.size w w'
set_option maxRecDepth 10000 in
set_option maxHeartbeats 1000000 in
theorem seen_some (h : SpI o w q p S c) (k : List UInt8) (now : Int) {H : Hd} (hS : S k = some H) : ∃ l f r, Val3 (fun b => o b = q ++ [3]) w H.v l f r ∧ VSmall H.v ∧ Calls Tryz.prog 311 #[.pointer (some ⟨p, 0, none⟩), txt k, .int .i64 now] w (SeenDid w H (!H.over now) l f r) := by
  obtain ⟨m, d, a, kvs, h⟩ := h
  have hv := h.vals k
  rw [hS] at hv
  cases hm : mfind kvs k with
  | none => rw [hm] at hv; exact hv.elim
  | some u =>
    rw [hm] at hv
    obtain ⟨l, f, r, rfl, hv3, hsm⟩ := hv
    refine ⟨l, f, r, hv3, hsm, ?_⟩
    have hlk := run_look (P := Tryz.prog) (h.keys.alloc (.cells #[.int .i64 0, .string ⟨#[]⟩, .slice none 0 0, .slice none 0 0, .slice none 0 0, .int .i64 0, .int .u64 0] 88) w.heap.size [] rfl) Tryz.underlying71 Tryz.underlying9 k true (zeroHd _)
    rw [hm] at hlk
    have hc := h.blk.cell
    have hl := h.blk.lt
    obtain ⟨a1, c1, rfl, _⟩ := hv3.list.slice
    obtain ⟨a2, c2, rfl, _⟩ := hv3.fields.slice
    obtain ⟨a3, c3, rfl, _⟩ := hv3.ranked.slice
    have hov : ∀ W : World, Calls Tryz.prog 102 #[.int .i64 H.due, .int .i64 now] W fun e w' => e = .returned (.bool (H.over now)) ∧ w' = W := fun W => over_ok W H.due now
    generalize H.over now = bo at *
    have HOV := Lib.hid hov
    obtain ⟨⟨kind, text, list, fields, ranked⟩, due, ver⟩ := H
    dsimp only at hlk HOV
    clear h hm hS hv3 hsm hov
    unfold txt at *
    simp only [Option.getD_some, Option.isSome_some, if_true] at hlk
    cases bo with
    | false =>
      go_enter Tryz.func311, Tryz.ntmps311
      go_wp2_with fail
      refine (HOV.out _).mono ?_; rintro e w1 ⟨rfl, rfl⟩
      go_wp2_with fail
      exact bodyPost_ret (v := .tuple #[hdV ⟨⟨kind, text, list, fields, ranked⟩, due, ver⟩ (.slice a1 list.length c1) (.slice a2 fields.length c2) (.slice a3 ranked.length c3), .bool true]) (by simp [results, Tryz.results311, go_sem]) rfl ⟨rfl, ((Below.refl _ _).alloc (Nat.le_refl _) _).alloc (by simp) _⟩
    | true =>
      go_enter Tryz.func311, Tryz.ntmps311
      go_wp2_with fail
      refine (HOV.out _).mono ?_; rintro e w1 ⟨rfl, rfl⟩
      go_wp2_with fail
      exact bodyPost_ret (v := .tuple #[zHd, .bool false]) (by simp [results, Tryz.results311, go_sem]) rfl ⟨rfl, ((Below.refl _ _).alloc (Nat.le_refl _) _).alloc (by simp) _⟩
abbrev hd0 : Hd := ⟨⟨0, [], [], [], []⟩, 0, 0⟩
theorem seen_any (h : SpI o w q p S c) (k : List UInt8) (now : Int) : ∃ a1 c1 a2 c2 a3 c3 l f r, Val3 (fun b => o b = q ++ [3]) w ((S.at now k).getD hd0).v l f r ∧ VSmall ((S.at now k).getD hd0).v ∧
    l = .slice a1 ((S.at now k).getD hd0).v.list.length c1 ∧ f = .slice a2 ((S.at now k).getD hd0).v.fields.length c2 ∧ r = .slice a3 ((S.at now k).getD hd0).v.ranked.length c3 ∧
    Calls Tryz.prog 311 #[.pointer (some ⟨p, 0, none⟩), txt k, .int .i64 now] w fun e w' => e = .returned (.tuple #[hdV ((S.at now k).getD hd0) l f r, .bool (S.at now k).isSome]) ∧ Below w.heap.size w w' := by
  cases hS : S k with
  | none =>
    rw [SP.at_none hS]
    refine ⟨none, 0, none, 0, none, 0, _, _, _, ⟨Vw.nil _ _ _, Vw.nil _ _ _, Vw.nil _ _ _⟩, ⟨by simp, by simp, by simp, by simp⟩, rfl, rfl, rfl, ?_⟩
    exact seen_none h k now hS
  | some H =>
    obtain ⟨l, f, r, h1, h2, h3⟩ := seen_some h k now hS
    rw [SP.at_over hS]
    obtain ⟨a1, c1, e1, _⟩ := h1.list.slice
    obtain ⟨a2, c2, e2, _⟩ := h1.fields.slice
    obtain ⟨a3, c3, e3, _⟩ := h1.ranked.slice
    cases hb : H.over now with
    | false =>
      rw [hb] at h3
      exact ⟨a1, c1, a2, c2, a3, c3, l, f, r, h1, h2, e1, e2, e3, h3⟩
    | true =>
      rw [hb] at h3
      exact ⟨none, 0, none, 0, none, 0, _, _, _, ⟨Vw.nil _ _ _, Vw.nil _ _ _, Vw.nil _ _ _⟩, ⟨by simp, by simp, by simp, by simp⟩, rfl, rfl, rfl, h3⟩
def GetDid (w : World) (V : VV) (ok : Bool) (e : Ending) (w' : World) : Prop :=
  ∃ l f r, e = .returned (.tuple #[valV V l f r, .bool ok]) ∧ Val3 (fun b => w.heap.size ≤ b) w' V l f r ∧ Below w.heap.size w w'
set_option maxRecDepth 10000 in
set_option maxHeartbeats 1000000 in
theorem get_ok (h : SpI o w q p S c) (k : List UInt8) (now : Int) : Calls Tryz.prog 182 #[.pointer (some ⟨p, 0, none⟩), txt k, .int .i64 now] w (GetDid w ((S.at now k).getD hd0).v (S.at now k).isSome) := by
  have hB1 : Below w.heap.size w (w.alloc (.cells #[.int .i64 0, .string ⟨#[]⟩, .slice none 0 0, .slice none 0 0, .slice none 0 0] 80)) := (Below.refl _ _).alloc (Nat.le_refl _) _
  obtain ⟨a1, c1, a2, c2, a3, c3, l, f, r, hv, hsm, e1, e2, e3, hc⟩ := seen_any (h.below hB1) k now
  generalize (S.at now k).getD hd0 = H at *
  generalize (S.at now k).isSome = ok at *
  have hz : (w.alloc (.cells #[.int .i64 0, .string ⟨#[]⟩, .slice none 0 0, .slice none 0 0, .slice none 0 0] 80)).heap.size = w.heap.size + 1 := by simp
  have hd1 : Blk none0 (w.alloc (.cells #[.int .i64 0, .string ⟨#[]⟩, .slice none 0 0, .slice none 0 0, .slice none 0 0] 80)) [] w.heap.size #[.int .i64 0, .string ⟨#[]⟩, .slice none 0 0, .slice none 0 0, .slice none 0 0] 80 := ⟨heap_alloc_new w _, rfl⟩
  have HC := Lib.hid hc
  have HV := Lib.hid hv
  have HB := Lib.hid hB1
  have HD := Lib.hid hd1
  have HZ := Lib.hid hz
  clear h hc hv hB1 hd1 hz
  obtain ⟨⟨kind, text, list, fields, ranked⟩, due, ver⟩ := H
  dsimp only at e1 e2 e3 hsm
  subst e1 e2 e3
  unfold txt at *
  go_enter Tryz.func182, Tryz.ntmps182
  go_wp2_with fail
  refine HC.out.mono ?_; rintro e w2 ⟨rfl, hB2⟩
  have hB2' := Lib.hid (HB.out.trans (hB2.mono HB.out.size))
  have hz2 : w.heap.size + 1 ≤ w2.heap.size := by have := hB2.size; have := HZ.out; omega
  have HD2 := Lib.hid (HD.out.below hB2)
  have HCP := Lib.hid (copy_ok (HV.out.below (hB2.alloc (by have := hB2.size; exact this) (.cells #[.int .i64 kind, .string ⟨text.toArray⟩, .slice a1 list.length c1, .slice a2 fields.length c2, .slice a3 ranked.length c3, .int .i64 due, .int .u64 ver] 88))) hsm)
  clear hB2 HC HD HV
  go_wp2_with fail
  refine HCP.out.mono ?_; rintro e w3 ⟨l3, f3, r3, rfl, hv3, hB3⟩
  obtain ⟨b1, d1, rfl, _⟩ := id hv3.list.slice
  obtain ⟨b2, d2, rfl, _⟩ := id hv3.fields.slice
  obtain ⟨b3, d3, rfl, _⟩ := id hv3.ranked.slice
  have hd3 := (HD2.out.below (((Below.refl _ w2).alloc (Nat.le_refl _) _).trans (hB3.mono (by simp))))
  have hcd := hd3.cell
  have hfd := hd3.free
  have hB4 : Below w.heap.size w w3 := hB2'.out.trans ((((Below.refl _ w2).alloc (Nat.le_refl _) _).trans (hB3.mono (by simp))).mono (by omega))
  have HB4 := Lib.hid hB4
  have HV3 := Lib.hid (hv3.imp (B := fun b => w.heap.size + 1 ≤ b) (fun b hb => by simp at hb; omega))
  clear hv3 hd3 hB4 hB3 HCP HD2 hB2' HB
  go_wp2_with fail
  refine bodyPost_ret (v := .tuple #[valV ⟨kind, text, list, fields, ranked⟩ (.slice b1 list.length d1) (.slice b2 fields.length d2) (.slice b3 ranked.length d3), .bool ok]) (by simp [results, Tryz.results182, go_sem, hcd]) rfl ⟨_, _, _, rfl, ?_, ?_⟩
  · refine (HV3.out.stay (by simp) (fun b hb _ => ?_)).imp (fun b hb => Nat.le_trans (Nat.le_add_right _ _) hb)
    repeat rw [heap_set_far (by show b ≠ w.heap.size; omega)]
  · iterate 5 refine Below.setCell ?_ (by simp) _
    exact HB4.out
set_option maxRecDepth 10000 in
set_option maxHeartbeats 1000000 in
theorem due_ok (h : SpI o w q p S c) (k : List UInt8) (now : Int) : Calls Tryz.prog 179 #[.pointer (some ⟨p, 0, none⟩), txt k, .int .i64 now] w fun e w' => e = .returned (.tuple #[.int .i64 ((S.at now k).getD hd0).due, .bool (S.at now k).isSome]) ∧ Below w.heap.size w w' := by
  obtain ⟨a1, c1, a2, c2, a3, c3, l, f, r, hv, hsm, e1, e2, e3, hc⟩ := seen_any h k now
  generalize (S.at now k).getD hd0 = H at *
  generalize (S.at now k).isSome = ok at *
  have HC := Lib.hid hc
  clear h hc hv hsm
  obtain ⟨⟨kind, text, list, fields, ranked⟩, due, ver⟩ := H
  dsimp only at e1 e2 e3
  subst e1 e2 e3
  unfold txt at *
  go_enter Tryz.func179, Tryz.ntmps179
  go_wp2_with fail
  refine HC.out.mono ?_; rintro e w2 ⟨rfl, hB2⟩
  have HB2 := Lib.hid hB2
  clear hB2
  go_wp2_with fail
  go_ret2
  exact ⟨rfl, HB2.out.alloc HB2.out.size _⟩
end
end Go.Proofs.YtcgecgilkapjaaaGreatDoor
namespace Go.Proofs.YtcgecgilkapjaaaGreatDoor
open Go Go.RowKit
/-! value.Check. -/
theorem bcell {W w1 : World} (hb : Below W.heap.size W w1) : (∀ b o, b < W.heap.size → w1.cell? ⟨b, o, none⟩ = W.cell? ⟨b, o, none⟩) ∧ (∀ b o, b < W.heap.size → w1.frozen? ⟨b, o, none⟩ = W.frozen? ⟨b, o, none⟩) :=
  ⟨fun b o h => hb.cell (p := ⟨b, o, none⟩) h, fun b o h => hb.frozen (p := ⟨b, o, none⟩) h⟩
theorem upon_method {P : Program} {op : Oper} {act : Act} {K : Act → World → Prop} {Q : Exit → Act → World → Prop} {w : World} {n t : Nat} {x y : Value} {nm : String} {f : FuncId} (h : (method n t x nm).run P w = .ok (f, y) w)
    (hK : Oper.upon P op act K Q ((callFunc f #[y]).run P w)) : Oper.upon P op act K Q (((method n t x nm).run P w).andThen fun a w' => (callFunc a.fst #[a.snd]).run P w') := by
  rw [h]; exact hK
set_option maxRecDepth 10000 in
theorem vshort_ok (s : List UInt8) (w : World) : Calls Tryz.prog 464 #[txt s] w fun e w' => e = .returned (.bool (decide (s.length ≤ 1048576))) ∧ w' = w := by
  have hsz : (⟨s.toArray⟩ : ByteArray).size = s.length := by simp [ByteArray.size]
  have hd : decide ((s.length : Int) ≤ 1048576) = decide (s.length ≤ 1048576) := by simp; omega
  unfold txt
  go_enter Tryz.func464, Tryz.ntmps464
  go_wp2
  go_ret
  exact ⟨by rw [← hd]; rfl, rfl⟩
set_option maxRecDepth 10000 in
theorem vlong_ok (s : List UInt8) (w : World) (h : s.length ≤ 1048576) : Calls Tryz.prog 472 #[txt s] w fun e w' => e = .returned (.bool false) ∧ w' = w := by
  have H := vshort_ok s w
  rw [decide_eq_true h] at H
  unfold txt at *
  go_enter Tryz.func472, Tryz.ntmps472
  go_wp2_with fail
  refine H.mono ?_; rintro e w' ⟨rfl, rfl⟩
  go_wp2_with fail
  go_ret
  exact ⟨rfl, rfl⟩
set_option maxRecDepth 10000 in
set_option maxHeartbeats 1000000 in
theorem indexF_ok {A : Nat → Prop} {w : World} {v : Value} {ws : List (List UInt8)} (h : Vw A w v 1 ws.length (ws.map txt)) (hs : ∀ x ∈ ws, x.length ≤ 1048576) (hn : ws.length ≤ 1099511627776) :
    Calls Tryz.prog 473 #[v, .func (.func 472) #[] #[]] w fun e w' => e = .returned (.int .i64 (-1)) ∧ w' = w := by
  obtain ⟨⟨a, cap, rfl, h1, h2, h3⟩, h4⟩ := h
  clear h4
  go_enter Tryz.func473, Tryz.ntmps473
  go_wp2_with fail
  go_loopw [8] (fun i wr => wr = w ∧ ∃ k : Nat, k ≤ ws.length ∧ i = .int .i64 (k : Int)) (fun i _ => ws.length - (intOf i).toNat)
  case atStart => exact ⟨rfl, 0, Nat.zero_le _, rfl⟩
  case round =>
    obtain ⟨rfl, k, hk, rfl⟩ := hrel
    by_cases hkl : k < ws.length
    · obtain ⟨x, hx⟩ : ∃ x, ws[k]? = some x := ⟨_, List.getElem?_eq_getElem hkl⟩
      rcases h3 with h3 | ⟨b, off, rfl, hb, _, hc⟩
      · omega
      have hcell : wr.cell? ⟨b, off + k, none⟩ = some (.string ⟨x.toArray⟩) := hc k (txt x) (by rw [List.getElem?_map, hx]; rfl)
      have HX := Lib.hid (vlong_ok x wr (hs x (List.mem_of_getElem? hx)))
      clear hc hs hx
      unfold txt at HX
      go_wp2_with fail
      refine HX.out.mono ?_; rintro e w1 ⟨rfl, rfl⟩
      go_wp2_with fail
      go_roundw
      case rel => exact ⟨trivial, k + 1, hkl, by go_num⟩
      case measure => simp [intOf]; omega
    · clear h3 hs
      go_wp2_with fail
      go_ret
      exact ⟨rfl, rfl⟩
set_option maxRecDepth 10000 in
theorem vlright_ok {A : Nat → Prop} {w : World} {v : Value} {ws : List (List UInt8)} (h : Vw A w v 1 ws.length (ws.map txt)) (hs : ∀ x ∈ ws, x.length ≤ 1048576) (hn : ws.length ≤ 1099511627776) :
    Calls Tryz.prog 469 #[v] w fun e w' => e = .returned (.bool true) ∧ w' = w := by
  have H := Lib.hid (indexF_ok h hs hn)
  obtain ⟨a, cap, rfl, _⟩ := h.slice
  clear h hs
  have H2 : Calls Tryz.prog 471 #[.slice a ws.length cap, .func (.func 472) #[] #[]] w fun e w' => e = .returned (.bool false) ∧ w' = w := by
    go_enter Tryz.func471, Tryz.ntmps471
    go_wp2_with fail
    refine H.out.mono ?_; rintro e w' ⟨rfl, rfl⟩
    go_wp2_with fail
    go_ret
    exact ⟨rfl, rfl⟩
  go_enter Tryz.func469, Tryz.ntmps469
  go_wp2_with fail
  refine H2.mono ?_; rintro e w' ⟨rfl, rfl⟩
  go_wp2_with fail
  go_ret
  exact ⟨rfl, rfl⟩
set_option maxRecDepth 10000 in
theorem vof_list (w : World) (l f r : Value) (V : VV) (hk : V.kind = 2) (hl : ∃ a n c, l = .slice a n c) (hf : ∃ a n c, f = .slice a n c) (hr : ∃ a n c, r = .slice a n c) : Calls Tryz.prog 75 #[valV V l f r] w fun e w' => e = .returned (.tuple #[.iface 175 l, .bool true]) ∧ Below w.heap.size w w' := by
  obtain ⟨kind, text, list, fields, ranked⟩ := V
  dsimp only at hk
  subst hk
  obtain ⟨a1, n1, c1, rfl⟩ := hl
  obtain ⟨a2, n2, c2, rfl⟩ := hf
  obtain ⟨a3, n3, c3, rfl⟩ := hr
  go_enter Tryz.func75, Tryz.ntmps75
  go_wp2
  go_ret2
  exact ⟨rfl, (Below.refl _ _).alloc (Nat.le_refl _) _⟩
set_option maxRecDepth 10000 in
theorem vcheck_list {A : Nat → Prop} {w : World} {V : VV} {l f r : Value} (h : Val3 A w V l f r) (hk : V.kind = 2) (ht : V.text = []) (hf : V.fields = []) (hr : V.ranked = []) (hne : V.list ≠ []) (hs : ∀ x ∈ V.list, x.length ≤ 1048576) (hn : V.list.length ≤ 1099511627776) :
    Calls Tryz.prog 39 #[valV V l f r] w fun e w' => e = .returned (.int .i64 0) ∧ Below w.heap.size w w' := by
  obtain ⟨a1, c1, e1, _⟩ := h.list.slice
  obtain ⟨a2, c2, e2, _⟩ := h.fields.slice
  obtain ⟨a3, c3, e3, _⟩ := h.ranked.slice
  have HO := Lib.hid (fun W => vof_list W l f r V hk ⟨_, _, _, e1⟩ ⟨_, _, _, e2⟩ ⟨_, _, _, e3⟩)
  have HR := Lib.hid (fun W (hB : Below w.heap.size w W) => vlright_ok (h.list.below hB) hs hn)
  obtain ⟨kind, text, list, fields, ranked⟩ := V
  dsimp only at hk ht hf hr hne hs hn e1 e2 e3 HO HR
  subst hk ht hf hr e1 e2 e3
  have h0 : ((list.length : Int) == 0) = false := beq_eq_false_iff_ne.2 (by cases list with | nil => exact absurd rfl hne | cons x t => simp; omega)
  clear h hs hne
  go_enter Tryz.func39, Tryz.ntmps39
  go_wp2_with fail
  refine (HO.out _).mono ?_; rintro e w2 ⟨rfl, hB2⟩
  have HB2 := Lib.hid (((Below.refl w.heap.size w).alloc (Nat.le_refl _) _).trans (hB2.mono (by simp)))
  obtain ⟨hq, _⟩ := bcell hB2
  have x0 : w2.cell? ⟨w.heap.size, 0, none⟩ = some (.int .i64 2) := by rw [hq _ _ (by simp)]; simp [go_sem]
  have x1 : w2.cell? ⟨w.heap.size, 1, none⟩ = some (.string ⟨#[]⟩) := by rw [hq _ _ (by simp)]; simp [go_sem]
  have x2 : w2.cell? ⟨w.heap.size, 2, none⟩ = some (.slice a1 list.length c1) := by rw [hq _ _ (by simp)]; simp [go_sem]
  have x3 : w2.cell? ⟨w.heap.size, 3, none⟩ = some (.slice a2 0 c2) := by rw [hq _ _ (by simp)]; simp [go_sem]
  have x4 : w2.cell? ⟨w.heap.size, 4, none⟩ = some (.slice a3 0 c3) := by rw [hq _ _ (by simp)]; simp [go_sem]
  clear hB2 hq HO
  go_wp2_with fail
  clear x0 x1 x2 x3 x4
  refine upon_method (f := 468) (y := .slice a1 list.length c1) (by kernel_rfl) ?_
  have HE : Calls Tryz.prog 468 #[.slice a1 list.length c1] w2 fun e w' => e = .returned (.bool false) ∧ w' = w2 := by
    go_enter Tryz.func468, Tryz.ntmps468
    go_wp2
    go_ret
    exact ⟨rfl, rfl⟩
  clear h0
  go_wp2_with fail
  refine HE.mono ?_; rintro e w3 ⟨rfl, rfl⟩
  go_wp2_with fail
  refine upon_method (f := 469) (y := .slice a1 list.length c1) (by kernel_rfl) ?_
  go_wp2_with fail
  refine (HR.out _ HB2.out).mono ?_; rintro e w4 ⟨rfl, rfl⟩
  go_wp2_with fail
  go_ret
  exact ⟨rfl, HB2.out⟩
end Go.Proofs.YtcgecgilkapjaaaGreatDoor
