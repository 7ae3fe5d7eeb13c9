import Derived.Test.YtoganolkgmilaaaGreatDoorXN
import Derived.Test.YtoganolkgmilaaaGreatDoorXV
import Derived.Test.YtoganolkgmilaaaGreatDoorKr
namespace Go.Proofs.YtoganolkgmilaaaGreatDoor
open Go Go.RowKit
/-! SPOP as a run of the law. -/
theorem RepL.imp {o : Roles} {w : World} {q : List Nat} {p : Nat} {r : RP} {K K2 : SP → Cnt → Prop} {e : Ending} {w' : World} (h : RepL o w q p r K e w') (hK : ∀ S' c', K S' c' → K2 S' c') : RepL o w q p r K2 e w' := by
  obtain ⟨v, h1, h2, o', S', c', h3, h4, h5⟩ := h
  exact ⟨v, h1, h2, o', S', c', h3, hK _ _ h4, h5⟩
section
variable {w : World} {q : List Nat} {p : Nat} {c : Cnt} {S : SP} {k : Tx} {l : List Tx} {K : SP → Cnt → Prop}
theorem serves_pop_bad (hq : q ≠ []) (hT : Tbl w) {y : Tx} {n : Int} (hy : parseN y = some n) (hn : n < 0) (hyl : y.length ≤ 1099511627776) (hK : K S c) : Serves 45 w q p S c spopB [k, y] (errR numErr) K := by
  intro o1 w1 cb m sv hj hm0 hB1 hcb hv
  have := spop_bad hj hq (hT.below hB1) hcb (k := k) (y := y) (by simpa using hv) hy hn hyl
  exact this.mono fun e w' h => RepJ.repL h hK
theorem serves_pop_one (hq : q ≠ []) {x : Tx} {L : List Tx} (hk : SetIs S k (x :: L)) (ha : Asc (x :: L)) (hs : ∀ y ∈ L, y.length ≤ 1048576) (hl : L.length ≤ 274877906944) (hc : c.num ≤ 1099511620000) (hf : c.few ≤ 1099511620000)
    (hK : ∀ S' c', SetIs S' k L → (∀ j, j ≠ k → S' j = S j) → c.near c' → K S' c') : Serves 45 w q p S c spopB [k] (bulkR x) K := by
  intro o1 w1 cb m sv hj hm0 hB1 hcb hv
  obtain ⟨e1, e2, e3, e4⟩ := hk.at 0
  have := spop_one hj hq hm0 hcb (k := k) (by simpa using hv) e1 e2 ha hs hl (by omega) (by omega)
  refine this.mono fun e w' h => RepJ.repL h (hK _ _ ?_ (fun j hj => layS_far hj _ _ _) ?_)
  · rw [e3]; exact hk.lay 0 _ _
  · have := layS_near c (S.at 0 k).isSome L
    exact ⟨by omega, by omega⟩
theorem serves_pop_n (hq : q ≠ []) (hT : Tbl w) {y : Tx} {n : Int} (hy : parseN y = some n) (hn : 0 ≤ n) (hyl : y.length ≤ 1099511627776) (hk : SetIs S k l) (ha : Asc l) (hs : ∀ y ∈ l, y.length ≤ 1048576) (hl : l.length ≤ 274877906944) (hc : c.num ≤ 1099511620000) (hf : c.few ≤ 1099511620000)
    {j : Nat} (hj : (j : Int) = min n (l.length : Int)) (hK : ∀ S' c', SetIs S' k (l.drop j) → (∀ j, j ≠ k → S' j = S j) → c.near c' → K S' c') : Serves 45 w q p S c spopB [k, y] (bulksR (l.take j)) K := by
  intro o1 w1 cb m sv hj1 hm0 hB1 hcb hv
  obtain ⟨e1, e2, e3, e4⟩ := hk.at 0
  have := spop_n hj1 hq hm0 (hT.below hB1) hcb (k := k) (y := y) (by simpa using hv) hy hn hyl e1 e2 ha hs hl (by omega) (by omega) hj
  refine this.mono fun e w' h => h.imp ?_
  rintro S' c' ⟨rfl, rfl⟩
  refine hK _ _ ?_ (fun i hi => ?_) ?_
  · unfold SP.poS
    split
    · rename_i h0; rw [h0, List.drop_zero]; exact hk
    · rw [e3]; exact hk.lay 0 _ _
  · unfold SP.poS
    split
    · rfl
    · exact layS_far hi _ _ _
  · unfold Cnt.poS
    split
    · exact c.near_refl
    · have := layS_near c (S.at 0 k).isSome (l.drop j)
      exact ⟨by omega, by omega⟩
end
/-- A reply without a list. -/
def PlF (o : Roles) (w0 : World) (w : World) (p : Nat) (n : Nat) (kind : Nat) (text : Tx) (num : Int) (K : SP → Prop) (e : Ending) (w' : World) : Prop :=
  ∃ a k c, e = .returned (repV kind text num (.slice a k c)) ∧ ∃ o' S' c', At w0 o' w' p S' c' (n + 2) ∧ K S' ∧ Stp [1] o w o' w'
section
variable {o : Roles} {w w0 : World} {p n : Nat} {c : Cnt} {S : SP} {f : Tx → List Tx} {k : Tx} {nm : Tx} {sv : Value}
theorem RunF.pl {r : RP} {K : SP → Prop} {e : Ending} {w' : World} (h : RunF o w0 w p n r K e w') : PlF o w0 w p n r.kind r.text r.n K e w' := by
  obtain ⟨v, rfl, hv, h⟩ := h
  obtain ⟨a, c, rfl, _⟩ := id hv.slice
  exact ⟨a, _, c, rfl, h⟩
theorem runF_pop_bad (h : At w0 o w p S c n) (hT : Tbl w) (hf : Sets f S) {y : Tx} {m : Int} (hv : Vw (Old w) w sv 1 3 ([nm, k, y].map txt)) (hlow : lowL nm = spopB) (hnm : nm.length ≤ 1099511627776) (hy : parseN y = some m) (hm : m < 0) (hyl : y.length ≤ 1099511627776) :
    Calls Tryz.prog 12 #[.pointer (some ⟨p, 0, none⟩), sv] w (PlF o w0 w p n 2 numErr 0 (Sets f)) :=
  (at_runF h (args := [k, y]) hv hlow hnm (by simp) (by simp) (fits_spop (by simp)) (.inr (.inr (.inl ⟨rfl, rfl⟩))) (serves_pop_bad (by decide) hT hy hm hyl ⟨hf, c.near_refl⟩)).mono fun _ _ h => h.pl
theorem runF_pop_one (h : At w0 o w p S c n) (hn : n ≤ 1099511620000) (hf : Sets f S) {x : Tx} {L : List Tx} (hx : f k = x :: L) (hv : Vw (Old w) w sv 1 2 ([nm, k].map txt)) (hlow : lowL nm = spopB) (hnm : nm.length ≤ 1099511627776) (hs : ∀ y ∈ L, y.length ≤ 1048576) (hl : L.length ≤ 274877906944) :
    Calls Tryz.prog 12 #[.pointer (some ⟨p, 0, none⟩), sv] w (PlF o w0 w p n 4 x 0 (Sets (upd f k L))) := by
  have h1 := hf k
  rw [hx] at h1
  exact (at_runF h (args := [k]) hv hlow hnm (by simp) (by simp) (fits_spop (by simp)) (.inr (.inr (.inl ⟨rfl, rfl⟩))) (serves_pop_one (by decide) h1.1 h1.2 hs hl (by have := h.num; omega) (by have := h.few; omega) fun S' c' e1 e2 e3 => ⟨hf.upd e1 (asc_cons.1 h1.2).2 e2, e3⟩)).mono fun _ _ h => h.pl
theorem runF_pop_n (h : At w0 o w p S c n) (hn : n ≤ 1099511620000) (hT : Tbl w) (hf : Sets f S) {y : Tx} {m : Int} (hv : Vw (Old w) w sv 1 3 ([nm, k, y].map txt)) (hlow : lowL nm = spopB) (hnm : nm.length ≤ 1099511627776) (hy : parseN y = some m) (hm : 0 ≤ m) (hyl : y.length ≤ 1099511627776) {L : List Tx} (hL : f k = L) (hs : ∀ y ∈ L, y.length ≤ 1048576) (hl : L.length ≤ 274877906944) {j : Nat} (hj : (j : Int) = min m (L.length : Int)) :
    Calls Tryz.prog 12 #[.pointer (some ⟨p, 0, none⟩), sv] w (BksF o w0 w p n (L.take j) (Sets (upd f k (L.drop j)))) := by
  have h1 := hf k
  rw [hL] at h1
  exact (at_runF h (args := [k, y]) hv hlow hnm (by simp) (by simp) (fits_spop (by simp)) (.inr (.inr (.inl ⟨rfl, rfl⟩))) (serves_pop_n (by decide) hT hy hm hyl h1.1 h1.2 hs hl (by have := h.num; omega) (by have := h.few; omega) hj fun S' c' e1 e2 e3 => ⟨hf.upd e1 (h1.2.sub (List.drop_sublist _ _)) e2, e3⟩)).mono fun _ _ h => h.bks
end
end Go.Proofs.YtoganolkgmilaaaGreatDoor
