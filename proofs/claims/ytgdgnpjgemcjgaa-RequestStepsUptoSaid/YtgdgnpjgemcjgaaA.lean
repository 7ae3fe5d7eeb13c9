import Derived.Test.YtgdgnpjgemcjgaaOwn
import Derived.Test.YtgdgnpjgemcjgaaSpec
import Derived.Test.YtgdgnpjgemcjgaaProg
import Derived.WalkLawsBesides
import Derived.WalkSpells
import Derived.BigQuiet
import Derived.Deep.QuietTactic
import Derived.Lib.Hide
namespace Go.Proofs.Ytgdgnpjgemcjgaa
open Go Go.RowKit

def bv (b : UInt8) : Value := .int .u8 b.toNat
def ptr (b : Nat) : Value := .pointer (some ⟨b, 0, none⟩)
def txt (l : List UInt8) : Value := .string ⟨l.toArray⟩
theorem info5 : (Try.prog.info? 5).map (fun i => (i.zero, i.size, i.bytes)) = some (some (.int .u8 0), 1, 1) := by kernel_rfl

/-- A byte of a text. -/
theorem idx_ok {s : List UInt8} {k : Nat} {b : UInt8} (h : s[k]? = some b) (w : World) :
    (Instr.index 9 (.string ⟨s.toArray⟩) (.int .i64 (k : Int))).run Try.prog w = .ok (.int .u8 (b.toNat : Int)) w := by
  have hk : k < s.length := (List.getElem?_eq_some_iff.1 h).1
  have hs : (⟨s.toArray⟩ : ByteArray).size = s.length := by simp [ByteArray.size]
  rw [run_index_string w 9 _ .i64 _ Try.underlying9, dif_pos ⟨by omega, by rw [hs]; omega⟩]
  obtain ⟨_, h⟩ := List.getElem?_eq_some_iff.1 h
  congr 3
  simp only [← h]
  rfl

/-- One byte comes behind. -/
theorem wpList_push {ops : Array Oper} {rest : List Oper} {o : Oper} {a : Act} {Q : Exit → Act → World → Prop} {ow : Roles} {w : World} {r : List Nat} (hgd : o.guard = none) (s x : Operand)
    (ho : o.op = .call { callee := .builtin .append, args := #[s, x], argTypes := #[62, 62] })
    {v : Value} {l : List UInt8} (b : UInt8) (hv : a.eval s = v) (hrow : Row ow w r 5 1 v l.length (l.map bv)) (hx : a.eval x = .slice (some ⟨w.heap.size, 0, none⟩) 1 1)
    (hn : l.length ≤ 1099511627776)
    (h : ∀ v' w' ow', Row ow' w' r 5 1 v' (l ++ [b]).length ((l ++ [b]).map bv) → Stp r ow w ow' w' → wpList Try.prog ops Q rest (a.put o.dst v') w') : wpList Try.prog ops Q (o :: rest) a (w.alloc (.cells #[.int .u8 (b.toNat : Int)] 5)) := by
  obtain ⟨i0, hi0, hz0, hz1, hz2⟩ := info_parts info5
  refine wpList_app (w.alloc (.cells #[.int .u8 (b.toNat : Int)] 5)) hgd s x 62 62 ho 5 i0 (.int .u8 0) 1 1 Try.underlying62 hi0 hz0 hz1 hz2 rfl hv (hrow.below ((Below.refl _ _).alloc (Nat.le_refl _) _)) (m := 1) (news := [bv b]) hx
    (Src.ofSlice _ Try.underlying62 ⟨w.heap.size, 0, none⟩ 1 1 _ rfl (World.news_of_block (heap_alloc_new w _)) (fun u hu => by simp [bv] at hu; subst hu; rfl)) (by unfold maxLen; omega) (by omega) ?_
  intro v' w' o' hr hs
  refine h v' w' o' ?_ ?_
  · simpa using hr
  · exact (Stp.ofBelow r ow ((Below.refl _ _).alloc (Nat.le_refl _) _)).trans hs

def hexI (c : UInt8) : Int := match hexV c with | some x => x | none => -1
theorem hexV_lt {c : UInt8} {x : Nat} (h : hexV c = some x) : x < 16 := by
  unfold hexV at h
  simp only [UInt8.le_iff_toNat_le, UInt8.reduceToNat] at h
  split at h
  · cases h; omega
  split at h
  · cases h; omega
  split at h
  · cases h; omega
  · cases h
theorem hexI_eq (c : UInt8) : hexI c = if 48 ≤ (c.toNat : Int) ∧ (c.toNat : Int) ≤ 57 then (c.toNat : Int) - 48 else if 97 ≤ (c.toNat : Int) ∧ (c.toNat : Int) ≤ 102 then (c.toNat : Int) - 97 + 10 else if 65 ≤ (c.toNat : Int) ∧ (c.toNat : Int) ≤ 70 then (c.toNat : Int) - 65 + 10 else -1 := by
  have e1 : (48 ≤ (c.toNat : Int) ∧ (c.toNat : Int) ≤ 57) ↔ (48 ≤ c.toNat ∧ c.toNat ≤ 57) := by omega
  have e2 : (97 ≤ (c.toNat : Int) ∧ (c.toNat : Int) ≤ 102) ↔ (97 ≤ c.toNat ∧ c.toNat ≤ 102) := by omega
  have e3 : (65 ≤ (c.toNat : Int) ∧ (c.toNat : Int) ≤ 70) ↔ (65 ≤ c.toNat ∧ c.toNat ≤ 70) := by omega
  unfold hexI hexV
  simp only [UInt8.le_iff_toNat_le, UInt8.reduceToNat, e1, e2, e3]
  clear e1 e2 e3
  by_cases h1 : 48 ≤ c.toNat ∧ c.toNat ≤ 57
  · simp only [if_pos h1]; omega
  · by_cases h2 : 97 ≤ c.toNat ∧ c.toNat ≤ 102
    · simp only [if_neg h1, if_pos h2]; omega
    · by_cases h3 : 65 ≤ c.toNat ∧ c.toNat ≤ 70
      · simp only [if_neg h1, if_neg h2, if_pos h3]; omega
      · simp only [if_neg h1, if_neg h2, if_neg h3]

set_option maxHeartbeats 400000 in
theorem hex_ok (c : UInt8) (w : World) : Calls Try.prog 54 #[bv c] w fun e w' => e = .returned (.int .i64 (hexI c)) ∧ w' = w := by
  have hlt : (c.toNat : Int) < 256 := by have := c.toNat_lt; omega
  have h0 : 0 ≤ (c.toNat : Int) := by omega
  rw [hexI_eq]
  unfold bv
  generalize (c.toNat : Int) = n at *
  by_cases h0 : 48 ≤ n ∧ n ≤ 57
  · rw [if_pos h0]
    have a0 := h0.1
    have b0 := h0.2
    clear h0
    have hw := IntWalk.u8_in (n - 48) (by omega)
    go_enter Try.func54, Try.ntmps54
    go_wp2_with fail
    go_ret
    exact ⟨rfl, rfl⟩
  · rw [if_neg h0]
    by_cases p0 : 48 ≤ n
    · have q0 : ¬ n ≤ 57 := fun hh => h0 ⟨p0, hh⟩
      clear h0
      by_cases h1 : 97 ≤ n ∧ n ≤ 102
      · rw [if_pos h1]
        have a1 := h1.1
        have b1 := h1.2
        clear h1
        have hw := IntWalk.u8_in (n - 97) (by omega)
        go_enter Try.func54, Try.ntmps54
        go_wp2_with fail
        go_ret
        exact ⟨rfl, rfl⟩
      · rw [if_neg h1]
        by_cases p1 : 97 ≤ n
        · have q1 : ¬ n ≤ 102 := fun hh => h1 ⟨p1, hh⟩
          clear h1
          by_cases h2 : 65 ≤ n ∧ n ≤ 70
          · rw [if_pos h2]
            have a2 := h2.1
            have b2 := h2.2
            clear h2
            have hw := IntWalk.u8_in (n - 65) (by omega)
            go_enter Try.func54, Try.ntmps54
            go_wp2_with fail
            go_ret
            exact ⟨rfl, rfl⟩
          · rw [if_neg h2]
            by_cases p2 : 65 ≤ n
            · have q2 : ¬ n ≤ 70 := fun hh => h2 ⟨p2, hh⟩
              clear h2
              go_enter Try.func54, Try.ntmps54
              go_wp2_with fail
              go_ret
              exact ⟨rfl, rfl⟩
            · clear h2
              go_enter Try.func54, Try.ntmps54
              go_wp2_with fail
              go_ret
              exact ⟨rfl, rfl⟩
        · clear h1
          by_cases h2 : 65 ≤ n ∧ n ≤ 70
          · rw [if_pos h2]
            have a2 := h2.1
            have b2 := h2.2
            clear h2
            have hw := IntWalk.u8_in (n - 65) (by omega)
            go_enter Try.func54, Try.ntmps54
            go_wp2_with fail
            go_ret
            exact ⟨rfl, rfl⟩
          · rw [if_neg h2]
            by_cases p2 : 65 ≤ n
            · have q2 : ¬ n ≤ 70 := fun hh => h2 ⟨p2, hh⟩
              clear h2
              go_enter Try.func54, Try.ntmps54
              go_wp2_with fail
              go_ret
              exact ⟨rfl, rfl⟩
            · clear h2
              go_enter Try.func54, Try.ntmps54
              go_wp2_with fail
              go_ret
              exact ⟨rfl, rfl⟩
    · clear h0
      by_cases h1 : 97 ≤ n ∧ n ≤ 102
      · rw [if_pos h1]
        have a1 := h1.1
        have b1 := h1.2
        clear h1
        have hw := IntWalk.u8_in (n - 97) (by omega)
        go_enter Try.func54, Try.ntmps54
        go_wp2_with fail
        go_ret
        exact ⟨rfl, rfl⟩
      · rw [if_neg h1]
        by_cases p1 : 97 ≤ n
        · have q1 : ¬ n ≤ 102 := fun hh => h1 ⟨p1, hh⟩
          clear h1
          by_cases h2 : 65 ≤ n ∧ n ≤ 70
          · rw [if_pos h2]
            have a2 := h2.1
            have b2 := h2.2
            clear h2
            have hw := IntWalk.u8_in (n - 65) (by omega)
            go_enter Try.func54, Try.ntmps54
            go_wp2_with fail
            go_ret
            exact ⟨rfl, rfl⟩
          · rw [if_neg h2]
            by_cases p2 : 65 ≤ n
            · have q2 : ¬ n ≤ 70 := fun hh => h2 ⟨p2, hh⟩
              clear h2
              go_enter Try.func54, Try.ntmps54
              go_wp2_with fail
              go_ret
              exact ⟨rfl, rfl⟩
            · clear h2
              go_enter Try.func54, Try.ntmps54
              go_wp2_with fail
              go_ret
              exact ⟨rfl, rfl⟩
        · clear h1
          by_cases h2 : 65 ≤ n ∧ n ≤ 70
          · rw [if_pos h2]
            have a2 := h2.1
            have b2 := h2.2
            clear h2
            have hw := IntWalk.u8_in (n - 65) (by omega)
            go_enter Try.func54, Try.ntmps54
            go_wp2_with fail
            go_ret
            exact ⟨rfl, rfl⟩
          · rw [if_neg h2]
            by_cases p2 : 65 ≤ n
            · have q2 : ¬ n ≤ 70 := fun hh => h2 ⟨p2, hh⟩
              clear h2
              go_enter Try.func54, Try.ntmps54
              go_wp2_with fail
              go_ret
              exact ⟨rfl, rfl⟩
            · clear h2
              go_enter Try.func54, Try.ntmps54
              go_wp2_with fail
              go_ret
              exact ⟨rfl, rfl⟩

set_option maxHeartbeats 400000 in
theorem rhex_ok (c : UInt8) (w : World) : Calls Try.prog 46 #[bv c] w fun e w' => e = .returned (.int .i64 (hexI c)) ∧ w' = w := by
  have hlt : (c.toNat : Int) < 256 := by have := c.toNat_lt; omega
  have h0 : 0 ≤ (c.toNat : Int) := by omega
  rw [hexI_eq]
  unfold bv
  generalize (c.toNat : Int) = n at *
  by_cases h0 : 48 ≤ n ∧ n ≤ 57
  · rw [if_pos h0]
    have a0 := h0.1
    have b0 := h0.2
    clear h0
    have hw := IntWalk.u8_in (n - 48) (by omega)
    go_enter Try.func46, Try.ntmps46
    go_wp2_with fail
    go_ret
    exact ⟨rfl, rfl⟩
  · rw [if_neg h0]
    by_cases p0 : 48 ≤ n
    · have q0 : ¬ n ≤ 57 := fun hh => h0 ⟨p0, hh⟩
      clear h0
      by_cases h1 : 97 ≤ n ∧ n ≤ 102
      · rw [if_pos h1]
        have a1 := h1.1
        have b1 := h1.2
        clear h1
        have hw := IntWalk.u8_in (n - 97) (by omega)
        go_enter Try.func46, Try.ntmps46
        go_wp2_with fail
        go_ret
        exact ⟨rfl, rfl⟩
      · rw [if_neg h1]
        by_cases p1 : 97 ≤ n
        · have q1 : ¬ n ≤ 102 := fun hh => h1 ⟨p1, hh⟩
          clear h1
          by_cases h2 : 65 ≤ n ∧ n ≤ 70
          · rw [if_pos h2]
            have a2 := h2.1
            have b2 := h2.2
            clear h2
            have hw := IntWalk.u8_in (n - 65) (by omega)
            go_enter Try.func46, Try.ntmps46
            go_wp2_with fail
            go_ret
            exact ⟨rfl, rfl⟩
          · rw [if_neg h2]
            by_cases p2 : 65 ≤ n
            · have q2 : ¬ n ≤ 70 := fun hh => h2 ⟨p2, hh⟩
              clear h2
              go_enter Try.func46, Try.ntmps46
              go_wp2_with fail
              go_ret
              exact ⟨rfl, rfl⟩
            · clear h2
              go_enter Try.func46, Try.ntmps46
              go_wp2_with fail
              go_ret
              exact ⟨rfl, rfl⟩
        · clear h1
          by_cases h2 : 65 ≤ n ∧ n ≤ 70
          · rw [if_pos h2]
            have a2 := h2.1
            have b2 := h2.2
            clear h2
            have hw := IntWalk.u8_in (n - 65) (by omega)
            go_enter Try.func46, Try.ntmps46
            go_wp2_with fail
            go_ret
            exact ⟨rfl, rfl⟩
          · rw [if_neg h2]
            by_cases p2 : 65 ≤ n
            · have q2 : ¬ n ≤ 70 := fun hh => h2 ⟨p2, hh⟩
              clear h2
              go_enter Try.func46, Try.ntmps46
              go_wp2_with fail
              go_ret
              exact ⟨rfl, rfl⟩
            · clear h2
              go_enter Try.func46, Try.ntmps46
              go_wp2_with fail
              go_ret
              exact ⟨rfl, rfl⟩
    · clear h0
      by_cases h1 : 97 ≤ n ∧ n ≤ 102
      · rw [if_pos h1]
        have a1 := h1.1
        have b1 := h1.2
        clear h1
        have hw := IntWalk.u8_in (n - 97) (by omega)
        go_enter Try.func46, Try.ntmps46
        go_wp2_with fail
        go_ret
        exact ⟨rfl, rfl⟩
      · rw [if_neg h1]
        by_cases p1 : 97 ≤ n
        · have q1 : ¬ n ≤ 102 := fun hh => h1 ⟨p1, hh⟩
          clear h1
          by_cases h2 : 65 ≤ n ∧ n ≤ 70
          · rw [if_pos h2]
            have a2 := h2.1
            have b2 := h2.2
            clear h2
            have hw := IntWalk.u8_in (n - 65) (by omega)
            go_enter Try.func46, Try.ntmps46
            go_wp2_with fail
            go_ret
            exact ⟨rfl, rfl⟩
          · rw [if_neg h2]
            by_cases p2 : 65 ≤ n
            · have q2 : ¬ n ≤ 70 := fun hh => h2 ⟨p2, hh⟩
              clear h2
              go_enter Try.func46, Try.ntmps46
              go_wp2_with fail
              go_ret
              exact ⟨rfl, rfl⟩
            · clear h2
              go_enter Try.func46, Try.ntmps46
              go_wp2_with fail
              go_ret
              exact ⟨rfl, rfl⟩
        · clear h1
          by_cases h2 : 65 ≤ n ∧ n ≤ 70
          · rw [if_pos h2]
            have a2 := h2.1
            have b2 := h2.2
            clear h2
            have hw := IntWalk.u8_in (n - 65) (by omega)
            go_enter Try.func46, Try.ntmps46
            go_wp2_with fail
            go_ret
            exact ⟨rfl, rfl⟩
          · rw [if_neg h2]
            by_cases p2 : 65 ≤ n
            · have q2 : ¬ n ≤ 70 := fun hh => h2 ⟨p2, hh⟩
              clear h2
              go_enter Try.func46, Try.ntmps46
              go_wp2_with fail
              go_ret
              exact ⟨rfl, rfl⟩
            · clear h2
              go_enter Try.func46, Try.ntmps46
              go_wp2_with fail
              go_ret
              exact ⟨rfl, rfl⟩
end Go.Proofs.Ytgdgnpjgemcjgaa
