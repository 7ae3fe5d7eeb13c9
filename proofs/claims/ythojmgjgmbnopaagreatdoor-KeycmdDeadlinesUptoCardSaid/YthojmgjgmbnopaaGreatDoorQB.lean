/- Contracts of the library at this program, as the kit's tools have laid them (some of them). -/
import Derived.Shelf.LaysC
import Derived.Shelf.LaysM
import Derived.Shelf.Strconv.Clone
import Derived.Test.YthojmgjgmbnopaaGreatDoorProg
import Derived.Test.YthojmgjgmbnopaaGreatDoorXO
import Derived.Test.YthojmgjgmbnopaaGreatDoorQD
import Derived.ProofKit
import Derived.Test.YthojmgjgmbnopaaGreatDoorED
import Derived.Lib.Bytealg
import Derived.Laws.Externs
namespace Go.Proofs
open Go Go.Shelf Go.RowKit Go.Lib
def Tryz.laysM316_ren : Go.Shelf.Ren := ⟨fun | 316 => 301 | n => n, fun | 9 => 9 | 3 => 3 | 4 => 4 | 37 => 98 | 0 => 0 | 127 => 318 | 5 => 5 | n => n, fun | n => n⟩
theorem Tryz.laysM316 : Go.Proofs.LaysM.n316 Tryz.prog Tryz.laysM316_ren := {
  mixed := by kernel_rfl
  f316 := Tryz.func301.trans (congrArg some (by kernel_rfl))
  t0 := Tryz.underlying0
  a0 := Tryz.isAgg0
  z0 := Tryz.sizeOf0
  v0 := Tryz.zeroValue0
  t3 := Tryz.underlying3
  a3 := Tryz.isAgg3
  z3 := Tryz.sizeOf3
  v3 := Tryz.zeroValue3
  t4 := Tryz.underlying4
  a4 := Tryz.isAgg4
  z4 := Tryz.sizeOf4
  v4 := Tryz.zeroValue4
  t9 := Tryz.underlying9
  a9 := Tryz.isAgg9
  z9 := Tryz.sizeOf9
  v9 := Tryz.zeroValue9
  t37 := Tryz.underlying98
  a37 := Tryz.isAgg98
  z37 := Tryz.sizeOf98
  v37 := Tryz.zeroValue98
  t127 := Tryz.underlying318
  a127 := Tryz.isAgg318
  z127 := Tryz.sizeOf318
  v127 := Tryz.zeroValue318
  t5 := Tryz.underlying5
  a5 := Tryz.isAgg5
  z5 := Tryz.sizeOf5
  v5 := Tryz.zeroValue5
  i0 := by kernel_rfl
  i3 := by kernel_rfl
  i4 := by kernel_rfl
  i5 := by kernel_rfl
  i9 := by kernel_rfl
  i37 := by kernel_rfl
  i127 := by kernel_rfl }
theorem Tryz.stringslite_Clone (s : ByteArray) (w : World) (hlim : s.size ≤ 281474976710656) :
    Calls Tryz.prog 301 #[.string s] w fun e w' => e = .returned (.string s) ∧ Below w.heap.size w w' := Any.stringslite_Clone Tryz.laysM316 s w hlim
end Go.Proofs
/- The commands' table, sorted: one list alone. -/
namespace Go.Proofs.YthojmgjgmbnopaaGreatDoor
open Go Go.RowKit
set_option maxRecDepth 100000
def sortedL : List SpecM := [
  ⟨[97,112,112,101,110,100], 3, true, false, 1, 1, 1⟩,
  ⟨[98,105,116,99,111,117,110,116], -2, false, false, 1, 1, 1⟩,
  ⟨[98,105,116,111,112], -4, true, false, 2, -1, 1⟩,
  ⟨[98,105,116,112,111,115], -3, false, false, 1, 1, 1⟩,
  ⟨[99,111,112,121], -3, true, false, 1, 2, 1⟩,
  ⟨[100,98,115,105,122,101], 1, false, false, 0, 0, 0⟩,
  ⟨[100,101,99,114], 2, true, false, 1, 1, 1⟩,
  ⟨[100,101,99,114,98,121], 3, true, false, 1, 1, 1⟩,
  ⟨[100,101,108], -2, true, false, 1, -1, 1⟩,
  ⟨[100,105,115,99,97,114,100], 1, false, true, 0, 0, 0⟩,
  ⟨[100,117,109,112], 2, false, false, 1, 1, 1⟩,
  ⟨[101,99,104,111], 2, false, false, 0, 0, 0⟩,
  ⟨[101,120,101,99], 1, false, true, 0, 0, 0⟩,
  ⟨[101,120,105,115,116,115], -2, false, false, 1, -1, 1⟩,
  ⟨[101,120,112,105,114,101], -3, true, false, 1, 1, 1⟩,
  ⟨[101,120,112,105,114,101,97,116], -3, true, false, 1, 1, 1⟩,
  ⟨[101,120,112,105,114,101,116,105,109,101], 2, false, false, 1, 1, 1⟩,
  ⟨[102,108,117,115,104,97,108,108], 1, true, false, 0, 0, 0⟩,
  ⟨[102,108,117,115,104,100,98], 1, true, false, 0, 0, 0⟩,
  ⟨[103,101,116], 2, false, false, 1, 1, 1⟩,
  ⟨[103,101,116,98,105,116], 3, false, false, 1, 1, 1⟩,
  ⟨[103,101,116,100,101,108], 2, true, false, 1, 1, 1⟩,
  ⟨[103,101,116,101,120], -2, true, false, 1, 1, 1⟩,
  ⟨[103,101,116,114,97,110,103,101], 4, false, false, 1, 1, 1⟩,
  ⟨[103,101,116,115,101,116], 3, true, false, 1, 1, 1⟩,
  ⟨[104,100,101,108], -3, true, false, 1, 1, 1⟩,
  ⟨[104,101,120,105,115,116,115], 3, false, false, 1, 1, 1⟩,
  ⟨[104,103,101,116], 3, false, false, 1, 1, 1⟩,
  ⟨[104,103,101,116,97,108,108], 2, false, false, 1, 1, 1⟩,
  ⟨[104,105,110,99,114,98,121], 4, true, false, 1, 1, 1⟩,
  ⟨[104,107,101,121,115], 2, false, false, 1, 1, 1⟩,
  ⟨[104,108,101,110], 2, false, false, 1, 1, 1⟩,
  ⟨[104,109,103,101,116], -3, false, false, 1, 1, 1⟩,
  ⟨[104,109,115,101,116], -4, true, false, 1, 1, 1⟩,
  ⟨[104,115,99,97,110], -3, false, false, 1, 1, 1⟩,
  ⟨[104,115,101,116], -4, true, false, 1, 1, 1⟩,
  ⟨[104,115,101,116,110,120], 4, true, false, 1, 1, 1⟩,
  ⟨[104,115,116,114,108,101,110], 3, false, false, 1, 1, 1⟩,
  ⟨[104,118,97,108,115], 2, false, false, 1, 1, 1⟩,
  ⟨[105,110,99,114], 2, true, false, 1, 1, 1⟩,
  ⟨[105,110,99,114,98,121], 3, true, false, 1, 1, 1⟩,
  ⟨[107,101,121,115], 2, false, false, 0, 0, 0⟩,
  ⟨[108,105,110,100,101,120], 3, false, false, 1, 1, 1⟩,
  ⟨[108,105,110,115,101,114,116], 5, true, false, 1, 1, 1⟩,
  ⟨[108,108,101,110], 2, false, false, 1, 1, 1⟩,
  ⟨[108,109,111,118,101], 5, true, false, 1, 2, 1⟩,
  ⟨[108,112,111,112], -2, true, false, 1, 1, 1⟩,
  ⟨[108,112,111,115], -3, false, false, 1, 1, 1⟩,
  ⟨[108,112,117,115,104], -3, true, false, 1, 1, 1⟩,
  ⟨[108,112,117,115,104,120], -3, true, false, 1, 1, 1⟩,
  ⟨[108,114,97,110,103,101], 4, false, false, 1, 1, 1⟩,
  ⟨[108,114,101,109], 4, true, false, 1, 1, 1⟩,
  ⟨[108,115,101,116], 4, true, false, 1, 1, 1⟩,
  ⟨[108,116,114,105,109], 4, true, false, 1, 1, 1⟩,
  ⟨[109,103,101,116], -2, false, false, 1, -1, 1⟩,
  ⟨[109,115,101,116], -3, true, false, 1, -1, 2⟩,
  ⟨[109,115,101,116,110,120], -3, true, false, 1, -1, 2⟩,
  ⟨[109,117,108,116,105], 1, false, true, 0, 0, 0⟩,
  ⟨[112,101,114,115,105,115,116], 2, true, false, 1, 1, 1⟩,
  ⟨[112,101,120,112,105,114,101], -3, true, false, 1, 1, 1⟩,
  ⟨[112,101,120,112,105,114,101,97,116], -3, true, false, 1, 1, 1⟩,
  ⟨[112,101,120,112,105,114,101,116,105,109,101], 2, false, false, 1, 1, 1⟩,
  ⟨[112,105,110,103], -1, false, false, 0, 0, 0⟩,
  ⟨[112,115,101,116,101,120], 4, true, false, 1, 1, 1⟩,
  ⟨[112,116,116,108], 2, false, false, 1, 1, 1⟩,
  ⟨[113,117,105,116], 1, false, true, 0, 0, 0⟩,
  ⟨[114,101,110,97,109,101], 3, true, false, 1, 2, 1⟩,
  ⟨[114,101,110,97,109,101,110,120], 3, true, false, 1, 2, 1⟩,
  ⟨[114,101,115,101,116], 1, false, true, 0, 0, 0⟩,
  ⟨[114,101,115,116,111,114,101], -4, true, false, 1, 1, 1⟩,
  ⟨[114,112,111,112], -2, true, false, 1, 1, 1⟩,
  ⟨[114,112,111,112,108,112,117,115,104], 3, true, false, 1, 2, 1⟩,
  ⟨[114,112,117,115,104], -3, true, false, 1, 1, 1⟩,
  ⟨[114,112,117,115,104,120], -3, true, false, 1, 1, 1⟩,
  ⟨[115,97,100,100], -3, true, false, 1, 1, 1⟩,
  ⟨[115,99,97,110], -2, false, false, 0, 0, 0⟩,
  ⟨[115,99,97,114,100], 2, false, false, 1, 1, 1⟩,
  ⟨[115,100,105,102,102], -2, false, false, 1, -1, 1⟩,
  ⟨[115,100,105,102,102,115,116,111,114,101], -3, true, false, 1, -1, 1⟩,
  ⟨[115,101,116], -3, true, false, 1, 1, 1⟩,
  ⟨[115,101,116,98,105,116], 4, true, false, 1, 1, 1⟩,
  ⟨[115,101,116,101,120], 4, true, false, 1, 1, 1⟩,
  ⟨[115,101,116,110,120], 3, true, false, 1, 1, 1⟩,
  ⟨[115,101,116,114,97,110,103,101], 4, true, false, 1, 1, 1⟩,
  ⟨[115,105,110,116,101,114], -2, false, false, 1, -1, 1⟩,
  ⟨[115,105,110,116,101,114,115,116,111,114,101], -3, true, false, 1, -1, 1⟩,
  ⟨[115,105,115,109,101,109,98,101,114], 3, false, false, 1, 1, 1⟩,
  ⟨[115,109,101,109,98,101,114,115], 2, false, false, 1, 1, 1⟩,
  ⟨[115,109,105,115,109,101,109,98,101,114], -3, false, false, 1, 1, 1⟩,
  ⟨[115,109,111,118,101], 4, true, false, 1, 2, 1⟩,
  ⟨[115,112,111,112], -2, true, false, 1, 1, 1⟩,
  ⟨[115,114,101,109], -3, true, false, 1, 1, 1⟩,
  ⟨[115,115,99,97,110], -3, false, false, 1, 1, 1⟩,
  ⟨[115,116,114,108,101,110], 2, false, false, 1, 1, 1⟩,
  ⟨[115,117,110,105,111,110], -2, false, false, 1, -1, 1⟩,
  ⟨[115,117,110,105,111,110,115,116,111,114,101], -3, true, false, 1, -1, 1⟩,
  ⟨[116,116,108], 2, false, false, 1, 1, 1⟩,
  ⟨[116,121,112,101], 2, false, false, 1, 1, 1⟩,
  ⟨[117,110,108,105,110,107], -2, true, false, 1, -1, 1⟩,
  ⟨[117,110,119,97,116,99,104], 1, false, true, 0, 0, 0⟩,
  ⟨[119,97,116,99,104], -2, false, true, 1, -1, 1⟩,
  ⟨[122,97,100,100], -4, true, false, 1, 1, 1⟩,
  ⟨[122,99,97,114,100], 2, false, false, 1, 1, 1⟩,
  ⟨[122,99,111,117,110,116], 4, false, false, 1, 1, 1⟩,
  ⟨[122,105,110,99,114,98,121], 4, true, false, 1, 1, 1⟩,
  ⟨[122,108,101,120,99,111,117,110,116], 4, false, false, 1, 1, 1⟩,
  ⟨[122,109,115,99,111,114,101], -3, false, false, 1, 1, 1⟩,
  ⟨[122,112,111,112,109,97,120], -2, true, false, 1, 1, 1⟩,
  ⟨[122,112,111,112,109,105,110], -2, true, false, 1, 1, 1⟩,
  ⟨[122,114,97,110,103,101], -4, false, false, 1, 1, 1⟩,
  ⟨[122,114,97,110,107], 3, false, false, 1, 1, 1⟩,
  ⟨[122,114,101,109], -3, true, false, 1, 1, 1⟩,
  ⟨[122,114,101,109,114,97,110,103,101,98,121,108,101,120], 4, true, false, 1, 1, 1⟩,
  ⟨[122,114,101,109,114,97,110,103,101,98,121,114,97,110,107], 4, true, false, 1, 1, 1⟩,
  ⟨[122,114,101,109,114,97,110,103,101,98,121,115,99,111,114,101], 4, true, false, 1, 1, 1⟩,
  ⟨[122,114,101,118,114,97,110,107], 3, false, false, 1, 1, 1⟩,
  ⟨[122,115,99,97,110], -3, false, false, 1, 1, 1⟩,
  ⟨[122,115,99,111,114,101], 3, false, false, 1, 1, 1⟩]
def chainB : List SpecM → Bool
  | a :: b :: l => ltOf cfS a b && chainB (b :: l)
  | _ => true
theorem chain_head : ∀ (l : List SpecM) (a : SpecM), chainB (a :: l) = true → ∀ x ∈ l, ltOf cfS a x = true
  | [], _, _, x, hx => by cases hx
  | b :: l, a, h, x, hx => by
    simp only [chainB, Bool.and_eq_true] at h
    rcases List.mem_cons.1 hx with rfl | hx
    · exact h.1
    · exact cf_swo.trans _ _ _ h.1 (chain_head l b h.2 x hx)
theorem chain_pw : ∀ (l : List SpecM), chainB l = true → l.Pairwise fun a b => ltOf cfS a b = true
  | [], _ => .nil
  | [a], _ => .cons (fun _ h => by cases h) .nil
  | a :: b :: l, h => by
    have h2 := h
    simp only [chainB, Bool.and_eq_true] at h2
    exact .cons (chain_head (b :: l) a h) (chain_pw (b :: l) h2.2)
theorem pw_mem {α : Type} {R : α → α → Prop} : ∀ {l : List α}, l.Pairwise R → ∀ {a b : α}, a ∈ l → b ∈ l → a = b ∨ R a b ∨ R b a
  | _, .nil, _, _, ha, _ => by cases ha
  | _, .cons h t, a, b, ha, hb => by
    rcases List.mem_cons.1 ha with h1 | h1 <;> rcases List.mem_cons.1 hb with h2 | h2
    · exact .inl (h1.trans h2.symm)
    · subst h1; exact .inr (.inl (h _ h2))
    · subst h2; exact .inr (.inr (h _ h1))
    · exact pw_mem t h1 h2
theorem sorted_chain : chainB sortedL = true := by kernel_rfl
theorem sorted_isPerm : sortedL.isPerm allL = true := by kernel_rfl
theorem sorted_cells : specsC sortedL = allCells := by kernel_rfl
theorem cells_flat : allCells.all flat = true := by kernel_rfl
theorem sorted_eq {L : List SpecM} (hp : L.Perm allL) (hs : Sort.SortedIn (ltOf cfS) 0 118 L.toArray) : L = sortedL := by
  have hS : sortedL.Perm allL := List.isPerm_iff.1 sorted_isPerm
  have hpw := chain_pw _ sorted_chain
  have hq := hp.trans hS.symm
  have hlen : L.length = 118 := by rw [hq.length_eq]; rfl
  refine List.Perm.eq_of_pairwise (le := fun a b => ltOf cfS b a = false) ?_ ?_ ?_ hq
  · intro a b ha hb h1 h2
    rcases pw_mem hpw (hq.mem_iff.1 ha) hb with h | h | h
    · exact h
    · rw [h] at h2; cases h2
    · rw [h] at h1; cases h1
  · rw [List.pairwise_iff_getElem]
    intro i j hi hj hij
    have h := hs i j (Nat.zero_le _) hij (by omega)
    rw [getElem!_pos L.toArray j (by simpa using hj), getElem!_pos L.toArray i (by simpa using hi)] at h
    simpa using h
  · refine hpw.imp fun {a b} h => ?_
    cases h2 : ltOf cfS b a with
    | false => rfl
    | true => have := cf_swo.trans _ _ _ h h2; rw [cf_swo.irrefl] at this; cases this
end Go.Proofs.YthojmgjgmbnopaaGreatDoor
/- What has no body and turns nothing: the comparison of texts; a text's copy. -/
namespace Go.Proofs.YthojmgjgmbnopaaGreatDoor
open Go Go.RowKit
theorem cmp_lt : ∀ (a b : List UInt8), Lib.compareBytes a b = if bytesLt a b then -1 else if bytesEq a b then 0 else 1
  | [], [] => rfl
  | [], _ :: _ => rfl
  | _ :: _, [] => rfl
  | a :: x, b :: y => by
    show (if a < b then -1 else if b < a then 1 else Lib.compareBytes x y) = _
    rw [cmp_lt x y]
    by_cases h : a.toNat = b.toNat
    · have e : Nat.beq a.toNat b.toNat = true := by rw [Nat.beq_eq]; exact h
      have l1 : bytesLt (a :: x) (b :: y) = bytesLt x y := by simp only [bytesLt, e, cond_true]
      have l2 : bytesEq (a :: x) (b :: y) = bytesEq x y := by simp only [bytesEq, e, Bool.true_and]
      rw [l1, l2, if_neg (by rw [UInt8.lt_iff_toNat_lt]; omega), if_neg (by rw [UInt8.lt_iff_toNat_lt]; omega)]
    · have e : Nat.beq a.toNat b.toNat = false := by rw [← Bool.not_eq_true]; exact fun h' => h (Nat.eq_of_beq_eq_true h')
      have l2 : bytesEq (a :: x) (b :: y) = false := by simp only [bytesEq, e, Bool.false_and]
      by_cases hl : a.toNat < b.toNat
      · have l1 : bytesLt (a :: x) (b :: y) = true := by simp only [bytesLt, e, cond_false]; exact Nat.ble_eq_true_of_le hl
        rw [l1, l2, if_pos (by rw [UInt8.lt_iff_toNat_lt]; exact hl), if_pos rfl]
      · have l1 : bytesLt (a :: x) (b :: y) = false := by simp only [bytesLt, e, cond_false]; rw [← Bool.not_eq_true]; exact fun h' => hl (Nat.le_of_ble_eq_true h')
        rw [l1, l2, if_neg (by rw [UInt8.lt_iff_toNat_lt]; omega), if_pos (by rw [UInt8.lt_iff_toNat_lt]; omega)]
        rfl
theorem X0_ok : XOk X0 := by
  intro f g vs v hf hg ρ vs' w hv
  unfold X0 at hf
  by_cases h : f = 297
  · subst h
    rw [if_pos rfl] at hf
    cases (Option.some.inj hf)
    dsimp only at hg
    split at hg
    · rename_i a b
      cases (Option.some.inj hg)
      cases hv with | cons h1 k1 =>
      cases k1 with | cons h2 k2 =>
      cases k2
      cases h1
      cases h2
      refine ⟨_, ?_, .int _ _⟩
      have hr := run_callFunc_extern (P := P) Tryz.func297 (by kernel_rfl) (by kernel_rfl) (by kernel_rfl) (e := Extern.BytealgCompare.compare) (by kernel_rfl) #[.string a, .string b] w
      have hr2 := Lib.run_compareString (P := P) a b w
      rw [cmp_lt] at hr2
      rw [hr2] at hr
      exact hr
    · cases hg
  · rw [if_neg h] at hf; cases hf
theorem clone_known {G : Nat} {W : World} {ρ : Rho} {st st' : St} {w : World} {vs vs' : List Value} {v : Value} (h : okClone vs st = some (v, st')) (hS : Sim G W ρ st w) (hv : VRs ρ vs vs') :
    Calls P 301 ⟨vs'⟩ w (Gives G W ρ st v st') := by
  unfold okClone at h
  split at h
  · rename_i a
    cases hb : Nat.ble a.length 281474976710656 with
    | false => rw [hb] at h; exact nn h
    | true =>
      rw [hb] at h
      have h := Option.some.inj h
      injection h with h1 h2
      subst h1
      subst h2
      cases hv with | cons h1 k1 =>
      cases k1
      cases h1
      refine (Tryz.stringslite_Clone ⟨⟨a⟩⟩ w (Nat.le_of_ble_eq_true hb)).mono ?_
      rintro e w' ⟨rfl, hB⟩
      exact ⟨_, ρ, rfl, .string _, hS.step hB, Ext.refl _ _⟩
  · exact nn h
end Go.Proofs.YthojmgjgmbnopaaGreatDoor
/- The commands' table, and what else is known, in the evaluator's words. -/
namespace Go.Proofs.YthojmgjgmbnopaaGreatDoor
open Go Go.RowKit
theorem all_known {G : Nat} {W : World} {ρ : Rho} {st st' : St} {w : World} {vs vs' : List Value} {v : Value} (h : okAll vs st = some (v, st')) (hS : Sim G W ρ st w) (hv : VRs ρ vs vs') :
    Calls P 174 ⟨vs'⟩ w (Gives G W ρ st v st') := by
  unfold okAll at h
  split at h
  · have h := Option.some.inj h
    injection h with h1 h2
    subst h1
    subst h2
    cases hv
    refine (all_okS w).mono ?_
    rintro e w' ⟨a, L, rfl, ⟨hp, hs⟩, hV, hB⟩
    obtain rfl := sorted_eq hp hs
    rw [sorted_cells] at hV
    obtain ⟨⟨a', cap, he, -, -, hz⟩, hlen⟩ := hV
    injection he with he1 he2 he3
    subst he1
    rcases hz with h0 | ⟨b, off, rfl, hlt, hge, hc⟩
    · exact absurd h0 (by decide)
    · have ho : ∃ cs T fr, w'.heap[b]? = some (.cells cs T fr) ∧ ∀ (k : Nat) u, allCells[k]? = some u → cs[k + off]? = some u := by
        have hl : 0 < allCells.length := by rw [hlen]; decide
        have h0 := hc 0 _ (List.getElem?_eq_getElem hl)
        unfold World.cell? at h0 hc
        simp only at h0 hc
        split at h0
        · rename_i cs T fr hw
          refine ⟨cs, T, fr, hw, fun k u hk => ?_⟩
          have := hc k u hk
          rw [hw] at this
          simpa [Nat.add_comm] using this
        · cases h0
      obtain ⟨cs, T, fr, ho, hcs⟩ := ho
      have hr : ObjR (ρ.set st.next ⟨b, off, cs.size, 7⟩) ⟨b, off, cs.size, 7⟩ (.cells true 7 allTree) (.cells cs T fr) := by
        refine ⟨rfl, rfl, (fun h => by cases h), ?_⟩
        intro i v hv
        unfold allTree at hv
        rw [Tr.get_fill] at hv
        split at hv
        · have hv' : allCells[i]? = some v := by simpa using hv
          refine ⟨v, hcs i v hv', flat_self ?_⟩
          exact List.all_eq_true.1 cells_flat v (List.mem_of_getElem? hv')
        · rw [Tr.get_nil] at hv; exact nn hv
      obtain ⟨k1, k2⟩ := hS.see hB hge ho hr
      refine ⟨_, _, rfl, ?_, k1, k2⟩
      have := VR.slice (ρ := ρ.set st.next ⟨b, off, cs.size, 7⟩) (k := st.next) (e := ⟨b, off, cs.size, 7⟩) 0 118 118 118 (Rho.set_same _ _ _) (Nat.le_refl _) (.inl rfl)
      simpa using this
  · exact nn h
theorem O0_ok (G : Nat) (W : World) : KnownOk G W O0 := by
  intro f o hf vs st v st' h ρ w vs' hS hv
  unfold O0 at hf
  by_cases h1 : f = 174
  · subst h1
    cases (Option.some.inj hf)
    exact all_known h hS hv
  · have e : Nat.beq f 174 = false := by rw [← Bool.not_eq_true]; exact fun h' => h1 (Nat.eq_of_beq_eq_true h')
    rw [e] at hf
    by_cases h2 : f = 301
    · subst h2
      cases (Option.some.inj hf)
      exact clone_known h hS hv
    · have e : Nat.beq f 301 = false := by rw [← Bool.not_eq_true]; exact fun h' => h2 (Nat.eq_of_beq_eq_true h')
      rw [e] at hf
      cases hf
end Go.Proofs.YthojmgjgmbnopaaGreatDoor
