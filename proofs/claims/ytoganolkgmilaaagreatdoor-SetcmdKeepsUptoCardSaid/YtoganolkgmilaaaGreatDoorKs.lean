import Derived.Test.YtoganolkgmilaaaGreatDoorKl
namespace Go.Proofs.YtoganolkgmilaaaGreatDoor
open Go Go.RowKit Go.ChangeMaps
/-! Keys, Len. -/
theorem cut_to {P : Program} {t e : TypeId} {i0 : TypeInfo} (ht : P.underlying t = some (.slice e)) (hi : P.info? e = some i0) {a : Option Addr} {n N cap : Nat} (h : n ≤ cap) (W : World) :
    (Instr.slice t (.slice a N cap) none (some (.int .i64 n)) (some (.int .i64 n))).run P W = .ok (.slice a n n) W := by
  have ha : a.map (fun x => x.add 0) = a := by cases a <;> simp [Addr.add]
  simp [Instr.slice, run_underlying ht, Instr.sliceBounds, Instr.sliceBound, asIntOf, sizeOf, typeInfo, hi]
  rw [if_pos (by omega)]
  simp [ha]
def KyRel (w : World) (g : Nat) (P : Tx → Bool) (L : List Tx) (n i : Value) (wr : World) : Prop :=
  ∃ (k r : Nat) (M : List Tx), k ≤ L.length ∧ M.length = L.length ∧ r = ((L.take k).filter P).length ∧ n = .int .i64 (r : Int) ∧ i = .int .i64 (k : Int) ∧ Below w.heap.size w wr ∧ (∀ j x, M[j]? = some x → wr.cell? ⟨g, j, none⟩ = some (txt x)) ∧ (∀ j, j < L.length → wr.frozen? ⟨g, j, none⟩ = false) ∧ M.take r = (L.take k).filter P ∧ M.drop k = L.drop k
theorem ky_step {P : Tx → Bool} {L M : List Tx} {k r : Nat} {x : Tx} (hx : L[k]? = some x) (hr : r = ((L.take k).filter P).length) (hM : M.length = L.length) (h1 : M.take r = (L.take k).filter P) (h2 : M.drop k = L.drop k) :
    (P x = true → r + 1 = ((L.take (k + 1)).filter P).length ∧ (M.set r x).take (r + 1) = (L.take (k + 1)).filter P ∧ (M.set r x).drop (k + 1) = L.drop (k + 1)) ∧ (P x = false → r = ((L.take (k + 1)).filter P).length ∧ M.take r = (L.take (k + 1)).filter P ∧ M.drop (k + 1) = L.drop (k + 1)) ∧ r ≤ k ∧ M[k]? = some x := by
  have hk : k < L.length := (List.getElem?_eq_some_iff.1 hx).1
  have hrk : r ≤ k := by rw [hr]; refine Nat.le_trans (List.length_filter_le _ _) ?_; simp; omega
  have e1 : L.take (k + 1) = L.take k ++ [x] := by rw [List.take_add_one, hx]; rfl
  have hd : M.drop (k + 1) = L.drop (k + 1) := by
    have := congrArg (List.drop 1) h2
    rwa [List.drop_drop, List.drop_drop] at this
  refine ⟨fun hp => ?_, fun hp => ?_, hrk, ?_⟩
  · have ef : (L.take (k + 1)).filter P = (L.take k).filter P ++ [x] := by rw [e1, List.filter_append]; simp [hp]
    rw [ef]
    refine ⟨by simp [hr], ?_, ?_⟩
    · rw [List.take_add_one, List.take_set_of_le (Nat.le_refl _), h1, List.getElem?_set_self (by omega)]; rfl
    · rw [List.drop_set_of_lt (by omega)]; exact hd
  · have ef : (L.take (k + 1)).filter P = (L.take k).filter P := by rw [e1, List.filter_append]; simp [hp]
    rw [ef]
    exact ⟨hr, h1, hd⟩
  · have : (M.drop k)[0]? = (L.drop k)[0]? := by rw [h2]
    rwa [List.getElem?_drop, List.getElem?_drop, Nat.add_zero, hx] at this
theorem mfind_has {kvs : KV} {k : List UInt8} (h : k ∈ kvs.map Prod.fst) : mfind kvs k ≠ none := by
  induction kvs with
  | nil => cases h
  | cons p t ih =>
    obtain ⟨q, u⟩ := p
    unfold mfind
    split
    · simp
    · rename_i hne
      exact ih (by simp at h; rcases h with h | h; exact absurd h hne; simpa using h)
theorem mfind_in {kvs : KV} {k : List UInt8} (h : mfind kvs k ≠ none) : k ∈ kvs.map Prod.fst := by
  induction kvs with
  | nil => exact absurd rfl h
  | cons p t ih =>
    obtain ⟨q, u⟩ := p
    unfold mfind at h
    split at h
    · rename_i e; subst e; simp
    · have := ih h
      simp only [List.map_cons, List.mem_cons]; exact .inr this
section
variable {o : Roles} {w : World} {q : List Nat} {p m d a : Nat} {c : Cnt} {kvs : KV} {S : SP}
theorem look_has (h : SpR o w q p m d a kvs S c) {k : List UInt8} (hk : k ∈ kvs.map Prod.fst) : ∃ H a1 n1 c1 a2 n2 c2 a3 n3 c3, S k = some H ∧ ∀ W, Below w.heap.size w W → (Instr.lookup 70 (.map (some m)) (txt k) false).run Tryz.prog W = .ok (hdV H (.slice a1 n1 c1) (.slice a2 n2 c2) (.slice a3 n3 c3)) W := by
  have hv := h.vals k
  cases hm : mfind kvs k with
  | none => exact absurd hm (mfind_has hk)
  | some u =>
    rw [hm] at hv
    cases hS : S k with
    | none => rw [hS] at hv; exact hv.elim
    | some H =>
      rw [hS] at hv
      obtain ⟨l, f, r, rfl, hv3, _⟩ := hv
      obtain ⟨a1, c1, rfl, _⟩ := hv3.list.slice
      obtain ⟨a2, c2, rfl, _⟩ := hv3.fields.slice
      obtain ⟨a3, c3, rfl, _⟩ := hv3.ranked.slice
      refine ⟨H, a1, H.v.list.length, c1, a2, H.v.fields.length, c2, a3, H.v.ranked.length, c3, rfl, fun W hW => ?_⟩
      have := run_look (P := Tryz.prog) (h.keys.below hW) Tryz.underlying70 Tryz.underlying9 k false (zeroHd _)
      rw [hm] at this
      exact this
def KeysDid (w : World) (K : List Tx) (e : Ending) (w' : World) : Prop := ∃ a, e = .returned (.slice a K.length K.length) ∧ Vw (fun b => w.heap.size ≤ b) w' (.slice a K.length K.length) 1 K.length (K.map txt) ∧ Below w.heap.size w w'
set_option maxRecDepth 10000 in
set_option maxHeartbeats 4000000 in
theorem skeys_ok (h : SpR o w q p m d a kvs S c) (hn : kvs.length ≤ 1099511627776) (now : Int) : Calls Tryz.prog 56 #[.pointer (some ⟨p, 0, none⟩), .int .i64 now] w (KeysDid w ((ofL (kvs.map Prod.fst)).filter fun x => (S.at now x).isSome)) := by
  have hnm := snames_ok h hn
  have HH := Lib.hid h
  obtain ⟨i0, hi0, hz0, hz1, hz2⟩ := info_parts infoS
  have hmem : ∀ x ∈ ofL (kvs.map Prod.fst), x ∈ kvs.map Prod.fst := fun x hx => (ofL_mem x _).1 hx
  have hLl : (ofL (kvs.map Prod.fst)).length ≤ 1099511627776 := Nat.le_trans (ofL_len _) (by simpa using hn)
  obtain ⟨L, hL⟩ : ∃ L, L = ofL (kvs.map Prod.fst) := ⟨_, rfl⟩
  rw [← hL] at hnm hmem hLl ⊢
  obtain ⟨P, hP⟩ : ∃ P : Tx → Bool, P = fun x => (S.at now x).isSome := ⟨_, rfl⟩
  rw [← hP]
  have HP := Lib.hid hP
  have HN := Lib.hid hnm
  have HM := Lib.hid hmem
  clear h hnm hmem hP hL
  go_enter Tryz.func56, Tryz.ntmps56
  go_wp2_with fail
  refine HN.out.mono ?_; rintro e w1 ⟨g, cap, rfl, hF⟩
  have hgw : w.heap.size ≤ g ∧ L.length ≤ cap := by
    rcases hF.own.2 with ⟨h1, _⟩ | ⟨g2, cap2, cur, h1, h2, h3, h4, rest⟩
    · cases h1
    · injection h1 with e1 _ e3
      injection e1 with e1
      injection e1 with e1 _ _
      subst e1 e3
      exact ⟨h2, h4⟩
  have hcells : (∀ j x, L[j]? = some x → w1.cell? ⟨g, j, none⟩ = some (txt x)) ∧ (∀ j, j < L.length → w1.frozen? ⟨g, j, none⟩ = false) := by
    obtain ⟨o2, hrow, _⟩ := hF.row none0 []
    have hat : ∀ j, j < L.length → w1.cell? ⟨g, j, none⟩ = (L.map txt)[j]? ∧ w1.frozen? ⟨g, j, none⟩ = false := fun j hj => by
      obtain ⟨g2, c2, e2, _, hc2, hf2⟩ := hrow.at (k := j) (by omega)
      injection e2 with e3 _ _
      injection e3 with e3
      injection e3 with e3 _ _
      subst e3
      exact ⟨hc2, hf2⟩
    refine ⟨fun j x hj => ?_, fun j hj => (hat j hj).2⟩
    rw [(hat j (List.getElem?_eq_some_iff.1 hj).1).1, List.getElem?_map, hj]; rfl
  have hat : KyRel w g P L (.int .i64 0) (.int .i64 0) w1 := ⟨0, 0, L, Nat.zero_le _, rfl, rfl, rfl, rfl, hF.below, hcells.1, hcells.2, rfl, rfl⟩
  have HCUT := Lib.hid (fun (n : Nat) (hn : n ≤ cap) => cut_to (P := Tryz.prog) Tryz.underlying22 hi0 (a := some ⟨g, 0, none⟩) (N := L.length) hn)
  have HCAP := Lib.hid hgw.2
  have hgw := hgw.1
  clear hF hcells HN
  go_wp2_with fail
  go_loopw [6, 15] (fun n i wr => KyRel w g P L n i wr) (fun _ i _ => L.length - (intOf i).toNat)
  case atStart => exact hat
  case round =>
    clear hat
    obtain ⟨k, r, M, hk, hM, hr, rfl, rfl, hB, hcl, hfz, hm1, hm2⟩ := hrel
    by_cases hkl : k < L.length
    · obtain ⟨x, hx⟩ : ∃ x, L[k]? = some x := ⟨_, List.getElem?_eq_getElem hkl⟩
      obtain ⟨hst1, hst2, hrk, hMk⟩ := ky_step hx hr hM hm1 hm2
      have hc := hcl k x hMk
      obtain ⟨y, hy⟩ : ∃ y, M[r]? = some y := ⟨_, List.getElem?_eq_getElem (by omega)⟩
      have hcr := hcl r y hy
      have hf := hfz r (by omega)
      obtain ⟨⟨⟨kind, text, list, fields, ranked⟩, due, ver⟩, a1, n1, c1, a2, n2, c2, a3, n3, c3, hS, hlk⟩ := look_has HH.out (HM.out x (List.mem_of_getElem? hx))
      have hlk := hlk wr hB
      have hfd : ∀ W, (Instr.field 82 (hdV ⟨⟨kind, text, list, fields, ranked⟩, due, ver⟩ (.slice a1 n1 c1) (.slice a2 n2 c2) (.slice a3 n3 c3)) 1).run Tryz.prog W = .ok (.int .i64 due) W := fun W => by kernel_rfl
      have hkI : (0 : Int) ≤ k ∧ (k : Int) < L.length ∧ (0 : Int) ≤ r ∧ (r : Int) ≤ k := by omega
      have hpc := (HH.out.blk.below hB).cell
      have hpx : P x = !(due != 0 && decide (due ≤ now)) := by
        rw [HP.out]
        show (S.at now x).isSome = _
        rw [SP.at_over hS]
        unfold Hd.over
        dsimp only
        cases (due != 0 && decide (due ≤ now)) <;> rfl
      have HOV := Lib.hid (over_ok wr due now)
      rcases hbo : (due != 0 && decide (due ≤ now)) with _ | _
      · rw [hbo] at hpx
        obtain ⟨g1, g2, g3⟩ := hst1 hpx
        have D := Lib.hid (show KyRel w g P L (.int .i64 ((r : Int) + 1)) (.int .i64 ((k : Int) + 1)) (wr.setCell ⟨g, r, none⟩ (txt x)) from
          ⟨k + 1, r + 1, M.set r x, hkl, by simpa using hM, g1, by simp, by simp, hB.setCell hgw _, fun j y hj => by
            by_cases hjk : j = r
            · subst hjk
              rw [List.getElem?_set_self (by omega)] at hj
              cases hj
              exact World.cell?_setCell_same _ _ _ hcr
            · rw [World.cell?_setCell_other _ _ _ _ (by intro e; injection e with _ e2 _; exact hjk e2.symm)]
              rw [List.getElem?_set_ne (by omega)] at hj
              exact hcl j y hj, fun j hj => by rw [World.frozen?_setCell]; exact hfz j hj, g2, g3⟩)
        have hov := HOV.out
        rw [hbo] at hov
        have HOV := Lib.hid hov
        clear hov hcl hfz hB hx hbo hpx hst1 hst2 g1 g2 g3 hm1 hm2 hMk hy hS hr hM
        unfold txt at hc hcr hlk D
        go_wp2_with fail
        refine HOV.out.mono ?_; rintro e w2 ⟨rfl, rfl⟩
        go_wp2_with fail
        exact ⟨D.out, by simp [intOf]; omega⟩
      · rw [hbo] at hpx
        obtain ⟨g1, g2, g3⟩ := hst2 hpx
        have D := Lib.hid (show KyRel w g P L (.int .i64 (r : Int)) (.int .i64 ((k : Int) + 1)) wr from ⟨k + 1, r, M, hkl, hM, g1, rfl, by simp, hB, hcl, hfz, g2, g3⟩)
        have hov := HOV.out
        rw [hbo] at hov
        have HOV := Lib.hid hov
        clear hov hcl hfz hB hx hbo hpx hst1 hst2 g1 g2 g3 hm1 hm2 hMk hy hS hr hM
        unfold txt at hc hcr hlk
        go_wp2_with fail
        refine HOV.out.mono ?_; rintro e w2 ⟨rfl, rfl⟩
        go_wp2_with fail
        exact ⟨D.out, by simp [intOf]; omega⟩
    · obtain rfl : k = L.length := by omega
      rw [List.take_length] at hr hm1
      have hrL : r ≤ L.length := by rw [hr]; exact List.length_filter_le _ _
      have hcut := HCUT.out r (by have := HCAP.out; omega)
      have D : KeysDid w (L.filter P) (.returned (.slice (some ⟨g, 0, none⟩) r r)) wr := by
        rw [← hm1]
        have hl : (M.take r).length = r := by simp; omega
        refine ⟨some ⟨g, 0, none⟩, by rw [hl], ?_, hB⟩
        rw [hl]
        have hcx : ∀ j u, ((M.take r).map txt)[j]? = some u → wr.cell? ⟨g, 0 + j, none⟩ = some u := fun j u hj => by
          rw [List.getElem?_map, List.getElem?_take] at hj
          split at hj
          · cases hMj : M[j]? with
            | none => rw [hMj] at hj; cases hj
            | some y =>
              rw [hMj] at hj
              cases hj
              rw [Nat.zero_add]; exact hcl j y hMj
          · cases hj
        refine ⟨⟨_, _, rfl, Nat.le_refl _, by unfold maxLen; omega, ?_⟩, by simp; omega⟩
        rcases Nat.eq_zero_or_pos r with h0 | h0
        · exact .inl h0
        · have hM0 : M[0]? = some M[0] := List.getElem?_eq_getElem (by omega)
          exact .inr ⟨g, 0, rfl, cell_lt (hcl 0 _ hM0), hgw, hcx⟩
      have HD := Lib.hid D
      have hrI : (r : Int) ≤ cap := by have := HCAP.out; omega
      clear D hcl hfz hB HH hm1 hm2 hr HM HP
      go_wp2_with fail
      go_ret
      exact HD.out
def LenDid (w : World) (K : List Tx) (e : Ending) (w' : World) : Prop := e = .returned (.int .i64 K.length) ∧ Below w.heap.size w w'
theorem slen_ok (h : SpR o w q p m d a kvs S c) (hn : kvs.length ≤ 1099511627776) (now : Int) : Calls Tryz.prog 31 #[.pointer (some ⟨p, 0, none⟩), .int .i64 now] w (LenDid w ((ofL (kvs.map Prod.fst)).filter fun x => (S.at now x).isSome)) := by
  have hk := skeys_ok h hn now
  clear h
  generalize (ofL (kvs.map Prod.fst)).filter (fun x => (S.at now x).isSome) = K at hk ⊢
  have HK := Lib.hid hk
  clear hk
  go_enter Tryz.func31, Tryz.ntmps31
  go_wp2_with fail
  refine HK.out.mono ?_; rintro e w1 ⟨a1, rfl, _, hB⟩
  have HB := Lib.hid hB
  clear hB HK
  go_wp2_with fail
  go_ret
  exact ⟨rfl, HB.out⟩
end
theorem nodup_len {α : Type} [DecidableEq α] : ∀ {l K : List α}, l.Nodup → (∀ x ∈ l, x ∈ K) → l.length ≤ K.length
  | [], _, _, _ => Nat.zero_le _
  | x :: t, K, h, hs => by
    obtain ⟨h1, h2⟩ := List.nodup_cons.1 h
    have hx := hs x (by simp)
    have := nodup_len (l := t) (K := K.erase x) h2 (fun y hy => (List.mem_erase_of_ne (fun e => h1 (by rw [← e]; exact hy))).2 (hs y (by simp [hy])))
    rw [List.length_erase_of_mem hx] at this
    have : 0 < K.length := List.length_pos_of_mem hx
    simp
    omega
/-- How many keys are seen. -/
theorem jlen_ok {o : Roles} {w : World} {q : List Nat} {p : Nat} {c : Cnt} {S : SP} (h : SpJ o w q p S c) {Ks : List Tx} (hK : ∀ k, S k ≠ none → k ∈ Ks) (hn : Ks.length ≤ 1099511627776) (now : Int) :
    ∃ K, Asc K ∧ (∀ x, x ∈ K ↔ (S.at now x).isSome = true) ∧ Calls Tryz.prog 31 #[.pointer (some ⟨p, 0, none⟩), .int .i64 now] w (LenDid w K) := by
  obtain ⟨m, d, a, kvs, h⟩ := h
  have hiff : ∀ k, mfind kvs k = none ↔ S k = none := fun k => (h.vals k).none_iff
  have hl : kvs.length ≤ Ks.length := by
    have := nodup_len (l := kvs.map Prod.fst) (K := Ks) h.nodup (fun x hx => hK x (fun e => mfind_has hx ((hiff x).2 e)))
    simpa using this
  refine ⟨_, Asc.sub (ofL_asc _) List.filter_sublist, fun x => ?_, slen_ok h (by omega) now⟩
  rw [List.mem_filter, ofL_mem]
  constructor
  · exact fun hx => hx.2
  · intro hx
    refine ⟨mfind_in fun e => ?_, hx⟩
    rw [SP.at_none ((hiff x).1 e)] at hx
    cases hx
/-- The keys that are seen, named. -/
theorem jlen_is {o : Roles} {w : World} {q : List Nat} {p : Nat} {c : Cnt} {S : SP} (h : SpJ o w q p S c) {Ks : List Tx} (hK : ∀ k, S k ≠ none → k ∈ Ks) (hn : Ks.length ≤ 1099511627776) {now : Int} {K : List Tx} (ha : Asc K) (hm : ∀ x, x ∈ K ↔ (S.at now x).isSome = true) :
    Calls Tryz.prog 31 #[.pointer (some ⟨p, 0, none⟩), .int .i64 now] w (LenDid w K) := by
  obtain ⟨K', h1, h2, h3⟩ := jlen_ok h hK hn now
  have e : K' = K := h1.ext ha fun x => (h2 x).trans (hm x).symm
  rw [← e]; exact h3
end Go.Proofs.YtoganolkgmilaaaGreatDoor
