import Derived.Test.YtoganolkgmilaaaGreatDoorXV
import Derived.Test.YtoganolkgmilaaaGreatDoorSb
namespace Go.Proofs.YtoganolkgmilaaaGreatDoor
open Go Go.RowKit
/-! More runs of a law that keep what it has laid by. -/
section
variable {o o' : Roles} {w w' w0 : World} {p n : Nat} {c : Cnt} {S : SP} {f : Tx → List Tx} {k : Tx} {nm : Tx} {sv : Value}
theorem At.app7 (h : At w0 o w p S c n) (x : Obj) (hs : Stp [7] (o.put w.heap.size [7]) (w.alloc x) o' w') : At w0 o' w' p S c n ∧ Stp [7] o w o' w' := by
  have s1 : Stp [7] o w o' w' := ((Stp.refl [7] o w).alloc (r' := [7]) x w.heap.size rfl).trans hs
  exact ⟨⟨h.sp.keep s1 (by intro t ht; simp at ht), h.st.hide s1 (fun b _ => by unfold none0; simp), h.num, h.few⟩, s1⟩
theorem runF_change (h : At w0 o w p S c n) (hn : n ≤ 1099511620000) (hf : Sets f S) (add : Bool) {more : List Tx} (hmn : more ≠ []) (hv : Vw (Old w) w sv 1 ((k :: more).length + 1) ((nm :: k :: more).map txt)) (hlow : lowL nm = chgB add) (hnm : nm.length ≤ 1099511627776)
    (hs : ∀ x ∈ nextL add (f k) more, x.length ≤ 1048576) (hl : (f k).length ≤ 274877906944) (hm : more.length ≤ 274877906944) :
    Calls Tryz.prog 12 #[.pointer (some ⟨p, 0, none⟩), sv] w (NumF o w0 w p n (nextN add (f k) more) (Sets (upd f k (nextL add (f k) more)))) := by
  have h1 := List.length_pos_iff.2 hmn
  refine (at_runF h (args := k :: more) (by simpa using hv) hlow hnm (by simp; omega) (by simp) (by cases add with | true => exact fits_sadd (by simp; omega) | false => exact fits_srem (by simp; omega)) (F := 43) (.inl ⟨rfl, by cases add with | true => exact .inl rfl | false => exact .inr rfl⟩) ?_).mono fun _ _ h => h.num
  exact serves_change (by decide) (hf k).1 (hf k).2 add hs hl hm (by have := h.num; omega) (by have := h.few; omega) fun S' c' e1 e2 e3 => ⟨hf.upd e1 (nextL_asc add _ _) e2, e3⟩
theorem runF_ismember (h : At w0 o w p S c n) (hf : Sets f S) {x : Tx} (hv : Vw (Old w) w sv 1 3 ([nm, k, x].map txt)) (hlow : lowL nm = sismemberB) (hnm : nm.length ≤ 1099511627776) (hl : (f k).length ≤ 1099511627776) :
    Calls Tryz.prog 12 #[.pointer (some ⟨p, 0, none⟩), sv] w (NumF o w0 w p n (if decide (x ∈ f k) = true then 1 else 0) (Sets f)) :=
  (at_runF h (args := [k, x]) hv hlow hnm (by simp) (by simp) fits_sismember (.inr (.inl ⟨rfl, .inr (.inl rfl)⟩)) (serves_ismember (by decide) (hf k).1 hl x ⟨hf, c.near_refl⟩)).mono fun _ _ h => h.num
/-- A list of yes and no as a reply. -/
def MemF (o : Roles) (w0 : World) (w : World) (p : Nat) (n : Nat) (L ms : List Tx) (K : SP → Prop) (e : Ending) (w' : World) : Prop :=
  ∃ a c, e = .returned (repV 6 [] 0 (.slice a ms.length c)) ∧ Vw (fun b => w.heap.size ≤ b) w' (.slice a ms.length c) 4 ms.length (rfsC (ms.map (memF L))) ∧ ∃ o' S' c', At w0 o' w' p S' c' (n + 2) ∧ K S' ∧ Stp [1] o w o' w'
theorem runF_mismember (h : At w0 o w p S c n) (hf : Sets f S) {ms : List Tx} (hms : ms ≠ []) (hv : Vw (Old w) w sv 1 ((k :: ms).length + 1) ((nm :: k :: ms).map txt)) (hlow : lowL nm = smismemberB) (hnm : nm.length ≤ 1099511627776) (hl : (f k).length ≤ 1099511627776) (hm : ms.length ≤ 274877906944) :
    Calls Tryz.prog 12 #[.pointer (some ⟨p, 0, none⟩), sv] w (MemF o w0 w p n (f k) ms (Sets f)) := by
  have h1 := List.length_pos_iff.2 hms
  refine (at_runF h (args := k :: ms) (by simpa using hv) hlow hnm (by simp; omega) (by simp) (fits_smismember (by simp; omega)) (F := 44) (.inr (.inl ⟨rfl, .inr (.inr (.inl rfl))⟩)) (serves_mismember (by decide) (hf k).1 hl (by omega) ⟨hf, c.near_refl⟩)).mono fun _ _ h => ?_
  obtain ⟨v, rfl, hv, h⟩ := h
  have e : (memR (f k) ms).list.length = ms.length := by simp [memR]
  rw [e] at hv
  obtain ⟨a, c, rfl, _⟩ := id hv.slice
  exact ⟨a, c, rfl, hv, h⟩
end
theorem nextN_first (a : List Tx) : nextN true [] a = ((ofL a).length : Int) := by
  show ((ofL ([] ++ a)).length : Int) - ((ofL []).length : Int) = _
  rw [ofL_nil]; simp
theorem less_filter {L : List Tx} (hL : Asc L) (b : List Tx) : lessL L b = L.filter fun x => !decide (x ∈ b) := by
  unfold lessL
  have e : (L.filter fun x => decide (x ∉ b)) = L.filter fun x => !decide (x ∈ b) := by congr 1; funext x; simp
  rw [e]
  exact ofL_self (hL.sub List.filter_sublist)
theorem nextN_less {L : List Tx} (hL : Asc L) (b : List Tx) : nextN false L b = (L.length : Int) - ((L.filter fun x => !decide (x ∈ b)).length : Int) := by
  show ((ofL L).length : Int) - ((lessL L b).length : Int) = _
  rw [ofL_self hL, less_filter hL]
end Go.Proofs.YtoganolkgmilaaaGreatDoor
