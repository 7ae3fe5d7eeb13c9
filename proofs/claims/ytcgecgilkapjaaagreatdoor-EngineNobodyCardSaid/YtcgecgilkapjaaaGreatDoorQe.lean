/- What has no body and turns nothing: the comparison of texts; what is known of a text's copy, a map's copy, a builder, a map's keys. -/
import Derived.Test.YtcgecgilkapjaaaGreatDoorEt
import Derived.Test.YtcgecgilkapjaaaGreatDoorQd
import Derived.Test.YtcgecgilkapjaaaGreatDoorSc
import Derived.Test.YtcgecgilkapjaaaGreatDoorIt
import Derived.StringKeys
import Derived.Lib.Bytealg
import Derived.Laws.Externs
namespace Go.Proofs.YtcgecgilkapjaaaGreatDoor
open Go Go.RowKit Go.Maps
variable {S : Rho} {G : Nat} {W : World} {ρ : Rho} {st st' : St} {w : World} {vs vs' : List Value} {v : Value}
theorem cmp_lt : ∀ (a b : List UInt8), Lib.compareBytes a b = if bytesLt a b then -1 else if bytesEq a b then 0 else 1
  | [], [] => rfl
  | [], _ :: _ => rfl
  | _ :: _, [] => rfl
  | a :: x, b :: y => by
    show (if a < b then -1 else if b < a then 1 else Lib.compareBytes x y) = _
    rw [cmp_lt x y]
    by_cases h : a.toNat = b.toNat
    · have e : Nat.beq a.toNat b.toNat = true := by rw [Nat.beq_eq]; exact h
      have l1 : bytesLt (a :: x) (b :: y) = bytesLt x y := by simp only [bytesLt, e, cond_true]
      have l2 : bytesEq (a :: x) (b :: y) = bytesEq x y := by simp only [bytesEq, e, Bool.true_and]
      rw [l1, l2, if_neg (by rw [UInt8.lt_iff_toNat_lt]; omega), if_neg (by rw [UInt8.lt_iff_toNat_lt]; omega)]
    · have e : Nat.beq a.toNat b.toNat = false := by rw [← Bool.not_eq_true]; exact fun h' => h (Nat.eq_of_beq_eq_true h')
      have l2 : bytesEq (a :: x) (b :: y) = false := by simp only [bytesEq, e, Bool.false_and]
      by_cases hl : a.toNat < b.toNat
      · have l1 : bytesLt (a :: x) (b :: y) = true := by simp only [bytesLt, e, cond_false]; exact Nat.ble_eq_true_of_le hl
        rw [l1, l2, if_pos (by rw [UInt8.lt_iff_toNat_lt]; exact hl), if_pos rfl]
      · have l1 : bytesLt (a :: x) (b :: y) = false := by simp only [bytesLt, e, cond_false]; rw [← Bool.not_eq_true]; exact fun h' => hl (Nat.le_of_ble_eq_true h')
        rw [l1, l2, if_neg (by rw [UInt8.lt_iff_toNat_lt]; omega), if_pos (by rw [UInt8.lt_iff_toNat_lt]; omega)]
        rfl
theorem X0_ok : XOk X0 := by
  intro f g vs v hf hg ρ vs' w hv
  unfold X0 at hf
  by_cases h : f = 282
  · subst h
    rw [if_pos rfl] at hf
    cases (Option.some.inj hf)
    dsimp only at hg
    split at hg
    · rename_i a b
      cases (Option.some.inj hg)
      cases hv with | cons h1 k1 =>
      cases k1 with | cons h2 k2 =>
      cases k2
      cases h1
      cases h2
      refine ⟨_, ?_, .int _ _⟩
      have hr := run_callFunc_extern (P := P) Tryz.func282 (by kernel_rfl) (by kernel_rfl) (by kernel_rfl) (e := Extern.BytealgCompare.compare) (by kernel_rfl) #[.string a, .string b] w
      have hr2 := Lib.run_compareString (P := P) a b w
      rw [cmp_lt] at hr2
      rw [hr2] at hr
      exact hr
    · cases hg
  · rw [if_neg h] at hf; cases hf
theorem clone_known (h : okClone vs st = some (v, st')) (hS : Sim S G W ρ st w) (hv : VRs ρ vs vs') :
    Calls P 436 ⟨vs'⟩ w (Gives S G W ρ st v st') := by
  unfold okClone at h
  split at h
  · rename_i a
    cases hb : Nat.ble a.length 281474976710656 with
    | false => rw [hb] at h; exact nn h
    | true =>
      rw [hb] at h
      have h := Option.some.inj h
      injection h with h1 h2
      subst h1
      subst h2
      cases hv with | cons h1 k1 =>
      cases k1
      cases h1
      refine (Tryz.stringslite_Clone ⟨⟨a⟩⟩ w (Nat.le_of_ble_eq_true hb)).mono ?_
      rintro e w' ⟨rfl, hB⟩
      exact ⟨_, ρ, rfl, .string _, hS.step hB, Ext.refl _ _⟩
  · exact nn h
theorem set_le (h : Sim S G W ρ st w) (e : Spot) : ρ.le (ρ.set st.next e) := by
  intro k f hf
  show (if k = st.next then _ else ρ k) = some f
  rw [if_neg (by rintro rfl; rw [h.fresh _ (Nat.le_refl _)] at hf; cases hf)]
  exact hf
theorem ent_nil {es : List MapEntry} (h : EntsR ρ [] es) : es = [] := by cases h; rfl
theorem ent_one {e : MapEntry} {es : List MapEntry} (h : EntsR ρ [e] es) : ∃ e', es = [e'] ∧ EntR ρ e e' := by
  cases h with | cons a b =>
  cases b
  exact ⟨_, rfl, a⟩
theorem keys_known {e em : Spot} {es : List MapEntry} {es' : Array MapEntry} {clock : Nat} {g : FuncId} (h : okKeys es clock st = some (v, st')) (hS : Sim S G W ρ st w)
    (hE : EntsR ρ es es'.toList) (hm : w.heap[em.b]? = some (.map es' clock)) 
    (hseq : ∀ (nn : Nat) (D0 : DataW Unit) (R : Value → Option (DataW Unit × List MemPlace)), w.ownsMap P 9 R em.b nn D0 → Maps.size D0 ≤ 1 →
      Calls P 153 #[.func (.func g) #[] #[.pointer (some ⟨e.b, 0, none⟩)]] w fun e w' => ∃ (v : Value) (ss : List (List UInt8)), e = .returned v ∧ ss.Perm (strKeys D0) ∧
        w'.ownsRow w.heap.size 9 1 v ss.length ((ss.mergeSort (fun x y => decide (x ≤ y))).map encStr) ∧ (v = .slice none 0 0 ↔ ss = []) ∧ Below w.heap.size w w') :
    Calls P 153 #[.func (.func g) #[] #[.pointer (some ⟨e.b, 0, none⟩)]] w (Gives S G W ρ st v st') := by
  unfold okKeys at h
  split at h
  · have h := Option.some.inj h
    injection h with h1 h2
    subst h1
    subst h2
    have he : es' = #[] := by have := ent_nil hE; simpa using this
    subst he
    refine (hseq 0 (.map []) (fun _ => none) ⟨#[], clock, hm, ⟨by simp, ⟨by simp, by simp, by simp⟩, by simp⟩, by simp, rfl⟩ (by simp [Maps.size])).mono ?_
    rintro e2 w' ⟨v2, ss, rfl, hp, hrow, hnil, hB⟩
    have hss : ss = [] := List.Perm.eq_nil (by simpa [strKeys] using hp)
    rw [hnil.2 hss]
    exact ⟨_, ρ, rfl, .nilSlice 0 0, hS.step hB, Ext.refl _ _⟩
  · rename_i s vv bb
    cases hb : (Nat.blt bb clock && Nat.ble s.length 65536) with
    | false => rw [hb] at h; exact nn h
    | true =>
      rw [hb] at h
      rw [Bool.and_eq_true] at hb
      have hb1 : bb < clock := Nat.le_of_ble_eq_true hb.1
      have hb2 := ble_le hb.2
      have h := Option.some.inj h
      injection h with h1 h2
      subst h1
      subst h2
      obtain ⟨e', he', hR⟩ := ent_one hE
      have hes : es' = #[e'] := by
        apply Array.toList_inj.1
        rw [he']
      subst hes
      obtain ⟨key', val', born'⟩ := e'
      have hk1 : key' = .string ⟨⟨s⟩⟩ := hR.key
      have hk2 : born' = bb := hR.born
      subst hk1
      subst hk2
      have hkey : keyOf P 9 (.string ⟨⟨s⟩⟩) = some (.string s) := by
        have := Go.WideMaps.keyOf_string_mk (P := P) (k := 9) Tryz.underlying9 (s := ⟨⟨s⟩⟩) (by show s.length ≤ maxLen; unfold maxLen; omega)
        exact this
      have hrd : Go.WideElems.rd P 9 (fun _ => some ((.nil : DataW Unit), ([] : List MemPlace))) ⟨.string ⟨⟨s⟩⟩, val', born'⟩ = some (.string s, .nil) := by
        unfold Go.WideElems.rd
        rw [hkey]
        rfl
      refine (hseq 1 (.map [(.string s, .nil)]) (fun _ => some (.nil, [])) ⟨#[⟨.string ⟨⟨s⟩⟩, val', born'⟩], clock, hm, ⟨by simp [maxLen], ⟨by simp [hb1], by simp, by simp⟩, by
        intro x hx
        simp only [List.mem_singleton] at hx
        subst hx
        exact ⟨_, hrd⟩⟩, by simp, by
        simp only [List.map_cons, List.map_nil, List.foldr_cons, List.foldr_nil, Go.WideElems.rg, hrd, Option.getD_some]
        rfl⟩ (by simp [Maps.size])).mono ?_
      rintro e2 w' ⟨v2, ss, rfl, hp, hrow, hnil, hB⟩
      have hss : ss = [s] := List.perm_singleton.1 (by simpa [strKeys, strOf] using hp)
      subst hss
      have hms : ([s] : List (List UInt8)).mergeSort (fun x y => decide (x ≤ y)) = [s] := by simp
      rw [hms] at hrow
      obtain ⟨hl, hz | ⟨gb, cap, cur, rfl, hge, hg, r1, r2, r3, r4⟩⟩ := hrow
      · exact absurd hz.2 (by simp)
      have hcell : cur[0]? = some (.string ⟨⟨s⟩⟩) := by
        have : (cur.toList.take 1)[0]? = some (encStr s) := by rw [show (1 : Nat) = [s].length * 1 from rfl, r4]; rfl
        rw [List.getElem?_take_of_lt (by decide)] at this
        simpa [encStr] using this
      have hr : ObjR (ρ.set st.next ⟨gb, 0, cur.size, 1⟩) ⟨gb, 0, cur.size, 1⟩ (.cells true 1 (Tr.fill .nil 0 [.string ⟨⟨s⟩⟩])) (.cells cur 9 (0, 0)) := by
        refine ⟨rfl, rfl, (fun hh => by cases hh), ?_⟩
        intro i x hx
        rw [Tr.get_fill] at hx
        split at hx
        · rename_i hi
          have hi0 : i = 0 := by have := hi.2; simp at this; exact this
          subst hi0
          simp only [Nat.sub_zero, List.getElem?_cons_zero, Option.some.injEq] at hx
          subst hx
          exact ⟨_, hcell, .string _⟩
        · rw [Tr.get_nil] at hx; exact nn hx
      obtain ⟨g1, g2⟩ := hS.see hB hge hg hr
      have hcap : 1 ≤ cap := by simpa using r1
      refine ⟨_, _, rfl, ?_, g1, g2⟩
      have := VR.slice (ρ := ρ.set st.next ⟨gb, 0, cur.size, 1⟩) (k := st.next) (e := ⟨gb, 0, cur.size, 1⟩) 0 1 1 cap (Rho.set_same _ _ _) hcap (.inr (by simp only [Nat.zero_add]; exact r3.symm))
      simpa using this
  · exact nn h
theorem sorted_known (h : okSorted vs st = some (v, st')) (hS : Sim S G W ρ st w) (hv : VRs ρ vs vs') :
    Calls P 153 ⟨vs'⟩ w (Gives S G W ρ st v st') := by
  unfold okSorted at h
  split at h
  · rename_i g k
    cases hgg : (Nat.beq g 284) with
    | false => rw [hgg] at h; exact nn h
    | true =>
      rw [hgg] at h
      simp only [cond_true] at h
      split at h
      · rename_i u c hk
        cases hu : Nat.beq (Nat.mod u 65536) 65535 with
        | false => rw [hu] at h; exact nn h
        | true =>
          rw [hu] at h
          simp only [cond_true] at h
          have hu := Nat.eq_of_beq_eq_true hu
          split at h
          · rename_i m hc0
            split at h
            · rename_i es clock hm
              cases hv with | cons h1 k1 =>
              cases k1
              cases h1 with | func _ ha hb =>
              cases ha
              cases hb with | cons hp hb' =>
              cases hb'
              cases hp with | @ptr _ e _ he =>
              obtain ⟨cs, T, fr, ho, r1, r2, r3, r4, r5⟩ := hS.row hk he
              have hsh : e.sh = 0 := r2 hu
              rw [hsh]
              obtain ⟨v0, hv0, hvr⟩ := r4 0 _ hc0
              cases hvr with | @map _ em hem =>
              obtain ⟨o, hmo, hr, -⟩ := hS.obj m _ hm em hem
              cases o <;> try exact hr.elim
              rename_i es' clock'
              obtain ⟨hr1, rfl⟩ := hr
              have hcell : w.cell? ⟨e.b, 0, none⟩ = some (.map (some em.b)) := by
                simp only [World.cell?, ho]
                rw [hsh] at hv0
                exact hv0
              have hlt := hS.lt hk he
              · have hg := Nat.eq_of_beq_eq_true hgg
                subst hg
                exact keys_known h hS hr1 hmo fun nn D0 R hown hsz => Tryz.sorted_B e.b em.b nn D0 R w hlt hcell hown hsz
            · exact nn h
          · exact nn h
      · exact nn h
  · exact nn h
end Go.Proofs.YtcgecgilkapjaaaGreatDoor
