import Derived.Test.YthojmgjgmbnopaaGreatDoorUa
namespace Go.Proofs.YthojmgjgmbnopaaGreatDoor
open Go Go.RowKit
/-! The document's entries: a list by rising keys, each with a value; where a key stands. -/
structure EV where
  key : Tx
  v : VV
  due : Int
  ver : Nat
  l : Value
  f : Value
  r : Value
def EV.hd (e : EV) : Hd := ⟨e.v, e.due, e.ver⟩
abbrev EV.cells (e : EV) : List Value := [.string ⟨e.key.toArray⟩, .int .i64 e.v.kind, .string ⟨e.v.text.toArray⟩, e.l, e.f, e.r, .int .i64 e.due, .int .u64 e.ver]
def evC (X : List EV) : List Value := X.flatMap EV.cells
def EvsOk (A : Nat → Prop) (w : World) (X : List EV) : Prop := ∀ e ∈ X, Val3 A w e.v e.l e.f e.r ∧ VSmall e.v
def SortX (X : List EV) : Prop := X.Pairwise fun a b => ltB a.key b.key = true
def posK (X : List EV) (k : Tx) : Nat := (X.takeWhile fun e => ltB e.key k).length
def hasK (X : List EV) (k : Tx) : Bool := match X[posK X k]? with
  | none => false
  | some e => e.key == k
def getX (X : List EV) (k : Tx) : Option EV := X.find? fun e => e.key == k
def putX (X : List EV) (e : EV) : List EV := X.take (posK X e.key) ++ e :: X.drop (if hasK X e.key then posK X e.key + 1 else posK X e.key)
theorem evC_len (X : List EV) : (evC X).length = X.length * 8 := by
  unfold evC
  induction X with
  | nil => rfl
  | cons x t ih => simp only [List.flatMap_cons, List.length_append, List.length_cons, List.length_nil, ih]; omega
theorem evC_app (X Y : List EV) : evC (X ++ Y) = evC X ++ evC Y := by unfold evC; exact List.flatMap_append
theorem evC_take (X : List EV) (n : Nat) : evC (X.take n) = (evC X).take (n * 8) := by
  by_cases h : n ≤ X.length
  · have h1 : evC X = evC (X.take n) ++ evC (X.drop n) := by rw [← evC_app, List.take_append_drop]
    have h2 : (evC (X.take n)).length = n * 8 := by rw [evC_len, List.length_take, Nat.min_eq_left h]
    rw [h1, ← h2, List.take_left]
  · rw [List.take_of_length_le (by omega), List.take_of_length_le (by rw [evC_len]; omega)]
theorem evC_drop (X : List EV) (n : Nat) : evC (X.drop n) = (evC X).drop (n * 8) := by
  by_cases h : n ≤ X.length
  · have h1 : evC X = evC (X.take n) ++ evC (X.drop n) := by rw [← evC_app, List.take_append_drop]
    have h2 : (evC (X.take n)).length = n * 8 := by rw [evC_len, List.length_take, Nat.min_eq_left h]
    rw [h1, ← h2, List.drop_left]
  · rw [List.drop_eq_nil_of_le (by omega), List.drop_eq_nil_of_le (by rw [evC_len]; omega)]; rfl
theorem posK_nil (k : Tx) : posK [] k = 0 := rfl
theorem posK_cons (x : EV) (X : List EV) (k : Tx) : posK (x :: X) k = if ltB x.key k then posK X k + 1 else 0 := by
  unfold posK
  rw [List.takeWhile_cons]
  split <;> rfl
theorem hasK_cons (x : EV) (X : List EV) (k : Tx) : hasK (x :: X) k = if ltB x.key k then hasK X k else (x.key == k) := by
  unfold hasK
  rw [posK_cons]
  cases h : ltB x.key k <;> simp
theorem putX_nil (e : EV) : putX [] e = [e] := rfl
theorem putX_cons (x : EV) (X : List EV) (e : EV) : putX (x :: X) e = if ltB x.key e.key then x :: putX X e else if x.key == e.key then e :: X else e :: x :: X := by
  unfold putX
  rw [posK_cons, hasK_cons]
  cases h : ltB x.key e.key with
  | true => simp only [if_true]; cases hasK X e.key <;> simp
  | false =>
    simp only [Bool.false_eq_true, if_false]
    cases h2 : (x.key == e.key) <;> simp
theorem posK_le (X : List EV) (k : Tx) : posK X k ≤ X.length := by unfold posK; exact (List.takeWhile_prefix _).length_le
theorem posK_lt : ∀ {X : List EV} {k : Tx} {j : Nat} {x : EV}, j < posK X k → X[j]? = some x → ltB x.key k = true
  | [], _, _, _, h, _ => by simp [posK] at h
  | y :: X, k, j, x, h, hx => by
    rw [posK_cons] at h
    split at h
    · rename_i hy
      cases j with
      | zero => simp at hx; subst hx; exact hy
      | succ j => exact posK_lt (X := X) (show j < posK X k by omega) (by simpa using hx)
    · omega
theorem posK_ge : ∀ {X : List EV} (_ : SortX X) {k : Tx} {j : Nat} {x : EV}, posK X k ≤ j → X[j]? = some x → ltB x.key k = false
  | [], _, _, _, _, _, hx => by simp at hx
  | y :: X, hs, k, j, x, h, hx => by
    have hs1 := List.pairwise_cons.1 hs
    rw [posK_cons] at h
    split at h
    · cases j with
      | zero => omega
      | succ j => exact posK_ge hs1.2 (show posK X k ≤ j by omega) (by simpa using hx)
    · rename_i hy
      have hy : ltB y.key k = false := by simpa using hy
      cases j with
      | zero => simp at hx; subst hx; exact hy
      | succ j =>
        have hm : x ∈ X := List.mem_of_getElem? (by simpa using hx)
        have hyx := hs1.1 x hm
        cases e : ltB x.key k with
        | false => rfl
        | true => have := less_trans _ _ _ hyx e; rw [show ltB y.key k = true from this] at hy; cases hy
theorem getX_cons (x : EV) (X : List EV) (k : Tx) : getX (x :: X) k = if x.key == k then some x else getX X k := by
  unfold getX
  rw [List.find?_cons]
  cases x.key == k <;> rfl
theorem getX_big : ∀ {X : List EV} {k : Tx}, (∀ x ∈ X, ltB k x.key = true) → getX X k = none
  | [], _, _ => rfl
  | x :: X, k, h => by
    rw [getX_cons]
    have h1 : ¬ (x.key == k) = true := by
      intro e
      have e := eq_of_beq e
      exact ltB_ne (h x (by simp)) e.symm
    rw [if_neg h1]
    exact getX_big fun y hy => h y (by simp [hy])
theorem getX_pos : ∀ {X : List EV} (_ : SortX X) (k : Tx), getX X k = if hasK X k then X[posK X k]? else none
  | [], _, _ => rfl
  | y :: X, hs, k => by
    have hs1 := List.pairwise_cons.1 hs
    rw [getX_cons, hasK_cons, posK_cons]
    cases h : ltB y.key k with
    | true =>
      have h1 : (y.key == k) = false := beq_eq_false_iff_ne.2 (ltB_ne h)
      rw [h1]
      simp only [Bool.false_eq_true, if_false, if_true, List.getElem?_cons_succ]
      exact getX_pos hs1.2 k
    | false =>
      cases h1 : (y.key == k) with
      | true => simp
      | false =>
        simp only [Bool.false_eq_true, if_false]
        have hlt : ltB k y.key = true := by
          rcases less_total k y.key with e | e | e
          · exact e
          · rw [e] at h1; simp at h1
          · rw [show ltB y.key k = true from e] at h; cases h
        exact getX_big fun x hx => less_trans _ _ _ hlt (hs1.1 x hx)
theorem hasK_getX {X : List EV} (hs : SortX X) (k : Tx) : hasK X k = (getX X k).isSome := by
  rw [getX_pos hs]
  cases h : hasK X k with
  | false => rfl
  | true =>
    unfold hasK at h
    cases e : X[posK X k]? with
    | none => rw [e] at h; cases h
    | some x => simp
theorem putX_mem : ∀ {X : List EV} {e z : EV}, z ∈ putX X e → z = e ∨ z ∈ X
  | [], _, _, h => by simpa [putX_nil] using h
  | x :: X, e, z, h => by
    rw [putX_cons] at h
    split at h
    · rcases List.mem_cons.1 h with h | h
      · exact .inr (by simp [h])
      · rcases putX_mem h with h | h
        · exact .inl h
        · exact .inr (by simp [h])
    · split at h
      · rcases List.mem_cons.1 h with h | h
        · exact .inl h
        · exact .inr (by simp [h])
      · rcases List.mem_cons.1 h with h | h
        · exact .inl h
        · exact .inr h
theorem putX_sort : ∀ {X : List EV} (_ : SortX X) (e : EV), SortX (putX X e)
  | [], _, e => by rw [putX_nil]; exact List.pairwise_singleton _ _
  | x :: X, hs, e => by
    have hs1 := List.pairwise_cons.1 hs
    rw [putX_cons]
    cases h : ltB x.key e.key with
    | true =>
      simp only [if_true]
      refine List.pairwise_cons.2 ⟨fun z hz => ?_, putX_sort hs1.2 e⟩
      rcases putX_mem hz with rfl | hz
      · exact h
      · exact hs1.1 z hz
    | false =>
      simp only [Bool.false_eq_true, if_false]
      cases h1 : (x.key == e.key) with
      | true =>
        simp only [if_true]
        have he := eq_of_beq h1
        exact List.pairwise_cons.2 ⟨fun z hz => by rw [← he]; exact hs1.1 z hz, hs1.2⟩
      | false =>
        simp only [Bool.false_eq_true, if_false]
        have hlt : ltB e.key x.key = true := by
          rcases less_total e.key x.key with h2 | h2 | h2
          · exact h2
          · rw [h2] at h1; simp at h1
          · rw [show ltB x.key e.key = true from h2] at h; cases h
        refine List.pairwise_cons.2 ⟨fun z hz => ?_, hs⟩
        rcases List.mem_cons.1 hz with rfl | hz
        · exact hlt
        · exact less_trans _ _ _ hlt (hs1.1 z hz)
theorem putX_len (X : List EV) (e : EV) : (putX X e).length ≤ X.length + 1 := by
  unfold putX
  simp only [List.length_append, List.length_cons, List.length_take, List.length_drop]
  have := posK_le X e.key
  split <;> omega
theorem putX_get : ∀ (X : List EV) (e : EV) (k : Tx), getX (putX X e) k = if e.key == k then some e else getX X k
  | [], e, k => by rw [putX_nil, getX_cons]
  | x :: X, e, k => by
    rw [putX_cons]
    cases h : ltB x.key e.key with
    | true =>
      simp only [if_true]
      rw [getX_cons, getX_cons, putX_get X e k]
      cases h1 : (x.key == k) with
      | false => simp
      | true =>
        have he : (e.key == k) = false := by
          rw [beq_eq_false_iff_ne]
          intro h2
          rw [← h2] at h1
          exact ltB_ne h (eq_of_beq h1)
        rw [he]
        simp
    | false =>
      simp only [Bool.false_eq_true, if_false]
      cases h1 : (x.key == e.key) with
      | true =>
        simp only [if_true]
        rw [getX_cons, getX_cons, eq_of_beq h1]
        cases (e.key == k) <;> simp
      | false =>
        simp only [Bool.false_eq_true, if_false]
        rw [getX_cons]
theorem vw_evs {A : Nat → Prop} {w : World} {v : Value} {n : Nat} {X : List EV} (h : Vw A w v 8 n (evC X)) {k : Nat} {y : EV} (hy : X[k]? = some y) : ∃ b off cap, v = .slice (some ⟨b, off, none⟩) n cap ∧ n ≤ cap ∧ b < w.heap.size ∧ A b ∧
    ∀ (k : Nat) (y : EV), X[k]? = some y → ∀ (j : Nat) (u : Value), y.cells[j]? = some u → w.cell? ⟨b, off + k * 8 + j, none⟩ = some u := by
  have hlen : X.length = n := by have := h.len; rw [evC_len] at this; omega
  have hk : k < X.length := (List.getElem?_eq_some_iff.1 hy).1
  obtain ⟨⟨a', c', e, h1, h2, h3⟩, h4⟩ := h
  subst e
  rcases h3 with h3 | ⟨b, off, rfl, g5, g6, g7⟩
  · omega
  refine ⟨b, off, c', rfl, h1, g5, g6, fun k y hy j u hj => ?_⟩
  have hk : k < X.length := (List.getElem?_eq_some_iff.1 hy).1
  have hd : X = X.take k ++ y :: X.drop (k + 1) := by
    have e1 : X.drop k = y :: X.drop (k + 1) := by
      rw [List.drop_eq_getElem_cons hk]
      congr 1
      rw [List.getElem?_eq_getElem hk] at hy
      cases hy; rfl
    rw [← e1, List.take_append_drop]
  have hj2 : j < 8 := (List.getElem?_eq_some_iff.1 hj).1
  have := g7 (k * 8 + j) u (by
    rw [hd, evC_app, List.getElem?_append_right (by rw [evC_len, List.length_take]; omega)]
    rw [evC_len, List.length_take, Nat.min_eq_left (Nat.le_of_lt hk)]
    show (y.cells ++ evC (X.drop (k + 1)))[_]? = _
    rw [show k * 8 + j - k * 8 = j by omega, List.getElem?_append_left (by simpa using hj2)]
    exact hj)
  rw [← Nat.add_assoc] at this; exact this
set_option maxRecDepth 10000 in
set_option maxHeartbeats 1000000 in
theorem xfind_any {A : Nat → Prop} {w : World} {v : Value} {X : List EV} (h : Vw A w v 8 X.length (evC X)) (hs : SortX X) (hn : X.length ≤ 1099511627776) (k : Tx) :
    Calls Tryz.prog 173 #[v, txt k] w fun e w' => e = .returned (.tuple #[.int .i64 (posK X k : Int), .bool (hasK X k)]) ∧ Below w.heap.size w w' := by
  obtain ⟨a, cap, rfl, _⟩ := id h.slice
  have HV := Lib.hid h
  have HP := Lib.hid (posK_le X k)
  clear h
  unfold txt
  go_enter Tryz.func173, Tryz.ntmps173
  go_wp2_with fail
  go_loopw [6, 7] (fun i j wr => ∃ lo hi : Nat, i = .int .i64 (lo : Int) ∧ j = .int .i64 (hi : Int) ∧ lo ≤ posK X k ∧ posK X k ≤ hi ∧ hi ≤ X.length ∧ w = wr) (fun i j _ => (intOf j).toNat - (intOf i).toNat)
  case atStart => exact ⟨0, X.length, rfl, rfl, Nat.zero_le _, HP.out, Nat.le_refl _, rfl⟩
  case round =>
    obtain ⟨lo, hi, rfl, rfl, h1, h2, h3, rfl⟩ := hrel
    by_cases hlh : lo < hi
    · obtain ⟨m, hm⟩ : ∃ m, m = (lo + hi) / 2 := ⟨_, rfl⟩
      have hm1 : lo ≤ m ∧ m < hi := by omega
      have hw1 : IntKind.i64.wrap ((lo : Int) + hi) = (lo : Int) + hi := by rw [IntKind.wrap_i64]; omega
      have hw2 : ((lo : Int) + hi).tdiv 2 = (m : Int) := by rw [hm, Int.tdiv_eq_ediv_of_nonneg (by omega)]; omega
      have hw3 : IntKind.i64.wrap (m : Int) = (m : Int) := by rw [IntKind.wrap_i64]; omega
      have hw4 : IntKind.i64.wrap ((m : Int) + 1) = (m : Int) + 1 := by rw [IntKind.wrap_i64]; omega
      obtain ⟨y, hy⟩ : ∃ y, X[m]? = some y := ⟨_, List.getElem?_eq_getElem (by omega)⟩
      obtain ⟨b, off, c, e, _, hbl, _, hcs⟩ := vw_evs HV.out hy
      injection e with e1 e2 e3
      subst e1 e3
      have hc1 : w.cell? ⟨b, off + m * 8, none⟩ = some (.string ⟨y.key.toArray⟩) := hcs m y hy 0 _ rfl
      have hk0 : (0 : Int) ≤ m := by omega
      have hk1 : (m : Int) < X.length := by omega
      have hlh2 : (lo : Int) < hi := by omega
      have HY := Lib.hid hy
      have H1 := Lib.hid h1
      have H2 := Lib.hid h2
      have H3 := Lib.hid h3
      have HM := Lib.hid hm1
      clear hcs hy h1 h2 h3 hlh hm1 hm
      rcases hlt : Op.bytesLess y.key k with _ | _
      · have D := Lib.hid (show posK X k ≤ m from by
          rcases Nat.lt_or_ge m (posK X k) with h | h
          · have := posK_lt h HY.out; rw [show ltB y.key k = false from hlt] at this; cases this
          · exact h)
        clear HY
        go_wp2_with fail
        go_roundw
        case rel => exact ⟨lo, m, rfl, rfl, H1.out, D.out, by have := HM.out; have := H3.out; omega, by first | rfl | trivial⟩
        case measure => have := HM.out; simp [intOf]; omega
      · have D := Lib.hid (show m + 1 ≤ posK X k from by
          rcases Nat.lt_or_ge m (posK X k) with h | h
          · exact h
          · have := posK_ge hs h HY.out; rw [show ltB y.key k = true from hlt] at this; cases this)
        clear HY
        go_wp2_with fail
        go_roundw
        case rel => exact ⟨m + 1, hi, by go_num, rfl, D.out, H2.out, H3.out, by first | rfl | trivial⟩
        case measure => have := HM.out; simp [intOf]; omega
    · have e1 : lo = posK X k := by omega
      have e2 : hi = posK X k := by omega
      subst e1 e2
      have hlh2 : ¬ ((posK X k : Int) < (posK X k : Int)) := by omega
      by_cases hpl : posK X k < X.length
      · obtain ⟨y, hy⟩ : ∃ y, X[posK X k]? = some y := ⟨_, List.getElem?_eq_getElem hpl⟩
        have D := Lib.hid (show hasK X k = (y.key == k) from by unfold hasK; rw [hy])
        obtain ⟨b, off, c, e, _, hbl, _, hcs⟩ := vw_evs HV.out hy
        injection e with e1 e2 e3
        subst e1 e3
        have hc1 : w.cell? ⟨b, off + posK X k * 8, none⟩ = some (.string ⟨y.key.toArray⟩) := hcs _ y hy 0 _ rfl
        have hk0 : (0 : Int) ≤ posK X k := by omega
        have hk1 : (posK X k : Int) < X.length := by omega
        clear hcs hy HV hpl h3 h1 h2 hlh HP
        go_wp2_with fail
        go_quiet (fail)
        go_wp2_with fail
        go_ret2
        exact ⟨by rw [D.out]; rfl, below_drewN (Below.refl _ _) _⟩
      · have hpe : posK X k = X.length := by omega
        have D := Lib.hid (show hasK X k = false from by unfold hasK; rw [List.getElem?_eq_none (by omega)])
        have HE := Lib.hid hpe
        clear HV hpl h3 h1 h2 hlh HP hlh2
        rw [hpe]
        clear hpe
        go_wp2_with fail
        go_quiet (fail)
        go_wp2_with fail
        go_ret2
        exact ⟨by rw [D.out, HE.out]; rfl, below_drewN (Below.refl _ _) _⟩
end Go.Proofs.YthojmgjgmbnopaaGreatDoor
namespace Go.Proofs.YthojmgjgmbnopaaGreatDoor
open Go Go.RowKit
/-! The document's list with another entry. -/
theorem vw_cutn {P : Program} {t e : TypeId} {i : TypeInfo} {sz : Nat} (ht : P.underlying t = some (.slice e)) (hi : P.info? e = some i) (hz : i.size = sz) {A : Nat → Prop} {w : World} {v : Value} {n : Nat} {xs : List Value} (h : Vw A w v sz n xs) (lo hi' : Nat) (h1 : lo ≤ hi') (h2 : hi' ≤ n) :
    ∃ a c, (hi' = n → ∀ W, (Instr.slice t v (some (.int .i64 lo)) none none).run P W = .ok (.slice a (hi' - lo) c) W) ∧
      (lo = 0 → ∀ W, (Instr.slice t v none (some (.int .i64 hi')) none).run P W = .ok (.slice a (hi' - lo) c) W) ∧
      Vw A w (.slice a (hi' - lo) c) sz (hi' - lo) ((xs.drop (lo * sz)).take ((hi' - lo) * sz)) := by
  obtain ⟨⟨a, cap, rfl, g1, g2, g3⟩, g4⟩ := h
  refine ⟨if cap = lo then a else a.map (fun x => x.add (lo * sz)), cap - lo, fun e W => ?_, fun e W => ?_, ⟨⟨_, _, rfl, by omega, by omega, ?_⟩, ?_⟩⟩
  · subst e
    simp [Instr.slice, run_underlying ht, Instr.sliceBounds, Instr.sliceBound, asIntOf, sizeOf, typeInfo, hi, hz]
    intro h; omega
  · subst e
    simp [Instr.slice, run_underlying ht, Instr.sliceBounds, Instr.sliceBound, asIntOf, sizeOf, typeInfo, hi]
    intro h; omega
  · rcases Nat.eq_zero_or_pos (hi' - lo) with e | e
    · exact .inl e
    · rcases g3 with g3 | ⟨b, off, rfl, g5, g6, g7⟩
      · omega
      · refine .inr ⟨b, off + lo * sz, ?_, g5, g6, fun k u hk => ?_⟩
        · rw [if_neg (by omega)]
          simp [addr_add]
        · have hk' : k < (hi' - lo) * sz := by have := (List.getElem?_eq_some_iff.1 hk).1; simp at this; omega
          rw [List.getElem?_take, if_pos hk', List.getElem?_drop] at hk
          rw [Nat.add_assoc]; exact g7 _ u hk
  · rw [List.length_take, List.length_drop, g4, ← Nat.sub_mul]
    exact Nat.min_eq_left (Nat.mul_le_mul_right _ (by omega))
theorem hasK_lt {X : List EV} {k : Tx} (h : hasK X k = true) : posK X k < X.length := by
  unfold hasK at h
  cases e : X[posK X k]? with
  | none => rw [e] at h; cases h
  | some x => exact (List.getElem?_eq_some_iff.1 e).1
def EV.Form (e : EV) : Prop := (∃ a n c, e.l = .slice a n c) ∧ (∃ a n c, e.f = .slice a n c) ∧ (∃ a n c, e.r = .slice a n c)
theorem EvsOk.form {A : Nat → Prop} {w : World} {X : List EV} (h : EvsOk A w X) : ∀ e ∈ X, e.Form := by
  intro e he
  obtain ⟨hv, _⟩ := h e he
  obtain ⟨a1, c1, e1, _⟩ := hv.list.slice
  obtain ⟨a2, c2, e2, _⟩ := hv.fields.slice
  obtain ⟨a3, c3, e3, _⟩ := hv.ranked.slice
  exact ⟨⟨_, _, _, e1⟩, ⟨_, _, _, e2⟩, ⟨_, _, _, e3⟩⟩
theorem EV.Form.one {e : EV} (h : e.Form) : ∀ u ∈ e.cells, u.oneCell' = true := by
  obtain ⟨⟨a1, n1, c1, e1⟩, ⟨a2, n2, c2, e2⟩, ⟨a3, n3, c3, e3⟩⟩ := h
  intro u hu
  simp only [List.mem_cons, List.not_mem_nil, or_false, e1, e2, e3] at hu
  rcases hu with rfl | rfl | rfl | rfl | rfl | rfl | rfl | rfl <;> rfl
theorem one_evC {X : List EV} (h : ∀ e ∈ X, e.Form) : ∀ u ∈ evC X, u.oneCell' = true := by
  intro u hu
  obtain ⟨e, he, hx⟩ := List.mem_flatMap.1 hu
  exact (h e he).one u hx
abbrev zEv : Value := .agg #[.string ⟨#[]⟩, .int .i64 0, .string ⟨#[]⟩, .slice none 0 0, .slice none 0 0, .slice none 0 0, .int .i64 0, .int .u64 0]
theorem infoEv : (Tryz.prog.info? 133).map (fun i => (i.zero, i.size, i.bytes)) = some (some zEv, 8, 128) := by kernel_rfl
theorem vw_newE {w : World} (cs : Array Value) (T : TypeId) (sz : Nat) (h : cs.size = sz) : Vw (fun b => b = w.heap.size) (w.alloc (.cells cs T)) (.slice (some ⟨w.heap.size, 0, none⟩) 1 1) sz 1 cs.toList := by
  refine ⟨⟨_, 1, rfl, Nat.le_refl _, by unfold maxLen; omega, .inr ⟨w.heap.size, 0, rfl, by simp, rfl, fun k u hk => ?_⟩⟩, by simp [h]⟩
  unfold World.cell?
  rw [show (w.alloc (.cells cs T)).heap[w.heap.size]? = some (.cells cs T (0, 0)) from heap_alloc_new w _]
  simpa using hk
def WithDid (w : World) (X : List EV) (E : Ending) (w' : World) : Prop :=
  ∃ a c, E = .returned (.slice a X.length c) ∧ Vw (fun b => w.heap.size ≤ b) w' (.slice a X.length c) 8 X.length (evC X) ∧ Below w.heap.size w w'
set_option maxRecDepth 10000 in
set_option maxHeartbeats 4000000 in
theorem xwith_any {A : Nat → Prop} {w : World} {v : Value} {X : List EV} {e : EV} (h : Vw A w v 8 X.length (evC X)) (hs : SortX X) (ho : ∀ e ∈ X, e.Form) (he : e.Form) (hn : X.length < 1099511627776) :
    Calls Tryz.prog 94 #[v, .agg e.cells.toArray] w (WithDid w (putX X e)) := by
  obtain ⟨i0, hi0, hz0, hz1, hz2⟩ := info_parts infoEv
  obtain ⟨av, cv, rfl, _⟩ := id h.slice
  have hp := posK_le X e.key
  have hq : (if hasK X e.key then posK X e.key + 1 else posK X e.key) ≤ X.length := by
    split
    · rename_i h1; exact hasK_lt h1
    · exact hp
  have hqp : posK X e.key ≤ (if hasK X e.key then posK X e.key + 1 else posK X e.key) := by split <;> omega
  obtain ⟨a1, c1, _, hr1, hv1⟩ := vw_cutn (P := Tryz.prog) Tryz.underlying67 hi0 hz1 h 0 (posK X e.key) (Nat.zero_le _) hp
  obtain ⟨a2, c2, hr2, _, hv2⟩ := vw_cutn (P := Tryz.prog) Tryz.underlying67 hi0 hz1 h (if hasK X e.key then posK X e.key + 1 else posK X e.key) X.length hq (Nat.le_refl _)
  have HF := Lib.hid (xfind_any (h.below ((Below.refl w.heap.size w).alloc (Nat.le_refl _) (.cells e.cells.toArray 133))) hs (Nat.le_of_lt hn) e.key)
  have hput : evC (putX X e) = (evC X).take (posK X e.key * 8) ++ e.cells ++ (evC X).drop ((if hasK X e.key then posK X e.key + 1 else posK X e.key) * 8) := by
    unfold putX
    rw [evC_app, evC_take, List.append_assoc]
    congr 1
    show e.cells ++ evC _ = _
    rw [evC_drop]
  have hlen : (putX X e).length = posK X e.key + 1 + (X.length - (if hasK X e.key then posK X e.key + 1 else posK X e.key)) := by
    unfold putX
    simp only [List.length_append, List.length_cons, List.length_take, List.length_drop]
    omega
  obtain ⟨⟨b1, m1, d1, f1⟩, ⟨b2, m2, d2, f2⟩, ⟨b3, m3, d3, f3⟩⟩ := id he
  have hel := evC_len X
  have HONE := Lib.hid (one_evC ho)
  have HE1 := Lib.hid he.one
  have HB1 := Lib.hid ((Below.refl w.heap.size w).alloc (Nat.le_refl _) (.cells e.cells.toArray 133))
  have hb : Blk none0 (w.alloc (.cells e.cells.toArray 133)) [] w.heap.size e.cells.toArray 133 := ⟨heap_alloc_new w _, rfl⟩
  have HB := Lib.hid hb
  have HPUT := Lib.hid hput
  have HLEN := Lib.hid hlen
  have HV1 := Lib.hid hv1
  have HV2 := Lib.hid hv2
  have hr1 := hr1 rfl
  have hr2 := hr2 rfl
  generalize posK X e.key = p at *
  generalize hasK X e.key = has at *
  generalize X.length = n at *
  obtain ⟨key, ⟨kind, text, list, fields, ranked⟩, due, ver, l, f, r⟩ := e
  dsimp only [EV.cells] at *
  subst f1 f2 f3
  clear hb h hput hlen hv1 hv2 he ho hs
  have HM1 := Lib.hid (show 0 + (p - 0) ≤ maxLen ∧ (0 + (p - 0)) * 128 ≤ 140737488355328 from by unfold maxLen; omega)
  have HM2 := Lib.hid (show p + 1 ≤ maxLen ∧ (p + 1) * 128 ≤ 140737488355328 from by unfold maxLen; omega)
  have HM3 := Lib.hid (show p + 1 + (n - (if has = true then p + 1 else p)) ≤ maxLen ∧ (p + 1 + (n - (if has = true then p + 1 else p))) * 128 ≤ 140737488355328 from by unfold maxLen; omega)
  have HP := Lib.hid hp
  have HEL := Lib.hid hel
  have HN := Lib.hid hn
  have hw4 : IntKind.i64.wrap ((p : Int) + 1) = (p : Int) + 1 := by rw [IntKind.wrap_i64]; omega
  have HQ := Lib.hid hq
  clear hp hn hq hqp hel
  cases has
  all_goals (
    simp only [Bool.false_eq_true, if_false, if_true] at *
    try push_cast at hr2
    go_enter Tryz.func94, Tryz.ntmps94
    go_wp2_with fail
    refine HF.out.mono ?_; rintro E w2 ⟨rfl, hB2⟩
    have hb2 := HB.out.below hB2
    have hc2 := hb2.cell
    have HBK := Lib.hid hb2
    have HB2 := Lib.hid (HB1.out.trans (hB2.mono HB1.out.size))
    have HV1 := Lib.hid (HV1.out.below (HB2.out))
    have HS1 := Lib.hid (HV1.out.src (P := Tryz.prog) Tryz.underlying67 (fun u hu => HONE.out u (List.mem_of_mem_drop (List.mem_of_mem_take hu))))
    clear hB2 hb2 HB HF HB1
    go_wp2_with (first
      | (at_builtin
         refine wpList_app _ rfl _ _ 67 67 rfl 133 i0 _ 8 128 Tryz.underlying67 hi0 hz0 hz1 hz2 rfl rfl (Row.nil none0 _ [9] 133 8) rfl HS1.out HM1.out.1 HM1.out.2 ?_
         intro v3 w3 o3 hr3 hs3
         rw [Nat.zero_add, List.nil_append, Nat.sub_zero] at hr3
         obtain ⟨a3', c3', rfl, _⟩ := id hr3.slice
         have HR3 := Lib.hid (hr3.alloc (.cells #[.string ⟨key.toArray⟩, .int .i64 kind, .string ⟨text.toArray⟩, .slice b1 m1 d1, .slice b2 m2 d2, .slice b3 m3 d3, .int .i64 due, .int .u64 ver] 133) w3.heap.size [] rfl)
         have HS3 := Lib.hid (hs3.alloc (r' := []) (.cells #[.string ⟨key.toArray⟩, .int .i64 kind, .string ⟨text.toArray⟩, .slice b1 m1 d1, .slice b2 m2 d2, .slice b3 m3 d3, .int .i64 due, .int .u64 ver] 133) w3.heap.size rfl)
         have HSRC := Lib.hid ((vw_newE (w := w3) #[.string ⟨key.toArray⟩, .int .i64 kind, .string ⟨text.toArray⟩, .slice b1 m1 d1, .slice b2 m2 d2, .slice b3 m3 d3, .int .i64 due, .int .u64 ver] 133 8 rfl).src (P := Tryz.prog) Tryz.underlying67 HE1.out)
         have hc3 := (HBK.out.below hs3.below0).cell
         clear hr3 hs3 HS1 HM1 HBK)
      | (at_builtin
         refine wpList_app _ rfl _ _ 67 67 rfl 133 i0 _ 8 128 Tryz.underlying67 hi0 hz0 hz1 hz2 rfl rfl HR3.out rfl HSRC.out HM2.out.1 HM2.out.2 ?_
         intro v4 w4 o4 hr4 hs4
         obtain ⟨a4', c4', rfl, _⟩ := id hr4.slice
         have HR4 := Lib.hid hr4
         have HS4 := Lib.hid (HS3.out.trans hs4)
         clear hr4 hs4 HS3 HSRC HR3 HM2)
      | (at_builtin
         refine wpList_app _ rfl _ _ 67 67 rfl 133 i0 _ 8 128 Tryz.underlying67 hi0 hz0 hz1 hz2 rfl rfl HR4.out rfl ((HV2.out.below (HB2.out.trans (HS4.out.below0.mono HB2.out.size))).src (P := Tryz.prog) Tryz.underlying67 (fun u hu => HONE.out u (List.mem_of_mem_drop (List.mem_of_mem_take hu)))) HM3.out.1 HM3.out.2 ?_
         intro v5 w5 o5 hr5 hs5
         obtain ⟨a5', c5', rfl, _⟩ := id hr5.slice
         have HR5 := Lib.hid hr5
         have HS5 := Lib.hid (HS4.out.trans hs5)
         clear hr5 hs5 HS4 HR4 HM3))
    go_ret
    have hv := (HR5.out.fresh HS5.out).vw.imp (B := fun b => w.heap.size ≤ b) (fun b hb => Nat.le_trans HB2.out.size hb)
    have hd : ∀ q, q ≤ n → List.take ((n - q) * 8) (List.drop (q * 8) (evC X)) = List.drop (q * 8) (evC X) := fun q hq => List.take_of_length_le (by rw [List.length_drop, HEL.out, ← Nat.sub_mul]; exact Nat.le_refl _)
    rw [hd _ HQ.out, Nat.zero_mul, List.drop_zero] at hv
    refine ⟨a5', c5', by rw [HLEN.out]; rfl, ?_, HB2.out.trans (HS5.out.below0.mono HB2.out.size)⟩
    rw [HLEN.out, HPUT.out]
    exact hv)
end Go.Proofs.YthojmgjgmbnopaaGreatDoor
