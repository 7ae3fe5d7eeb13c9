import Derived.Test.YtgdgnpjgemcjgaaU
import Derived.Deep.RegionWith
namespace Go.Proofs.Ytgdgnpjgemcjgaa
open Go Go.RowKit
def digB (n : Nat) : UInt8 := UInt8.ofNat (48 + n)
def digitsL (n : Nat) : List UInt8 := if n < 10 then [digB n] else digitsL (n / 10) ++ [digB (n % 10)]
termination_by n
decreasing_by omega
theorem digitsL_len (k : Nat) : ∀ n, n < k → (digitsL n).length ≤ n + 1 := by
  induction k with
  | zero => intro n h; omega
  | succ k ih =>
    intro n h
    rw [digitsL]
    split
    · simp
    · have := ih (n / 10) (by omega)
      simp; omega
theorem digB_int (n : Nat) (h : n < 10) : ((digB n).toNat : Int) = 48 + n := by
  unfold digB; rw [ofNat_lt _ (by omega)]; simp
theorem conv_one {w w' : World} {g : Nat} {c : Int} {b : UInt8} (hb : (b.toNat : Int) = c) (h : w.heap[g]? = some (.cells #[.int .u8 c] 5 (0, 0))) (hB : Below w.heap.size w w') :
    (convert 62 9 (.slice (some ⟨g, 0, none⟩) 1 1)).run Try.prog w' = .ok (.string ⟨#[b]⟩) w' := by
  have hg : g < w.heap.size := (Array.getElem?_eq_some_iff.1 h).1
  refine run_bytes_text w' ⟨g, 0, none⟩ 1 [b] ?_ 1 rfl
  intro j v hj
  match j, hj with
  | 0, hj =>
    simp at hj
    subst hj; subst hb
    simp [World.cell?, Addr.add, hB.block g hg, h, bv]
theorem conv_new (w : World) {c : Int} {b : UInt8} (hb : (b.toNat : Int) = c) :
    (convert 62 9 (.slice (some ⟨w.heap.size, 0, none⟩) 1 1)).run Try.prog (w.alloc (.cells #[.int .u8 c] 5)) = .ok (.string ⟨#[b]⟩) (w.alloc (.cells #[.int .u8 c] 5)) :=
  conv_one hb (heap_alloc_new w _) (Below.refl _ _)
theorem bytes_app (a b : List UInt8) : (⟨a.toArray⟩ : ByteArray) ++ ⟨b.toArray⟩ = ⟨(a ++ b).toArray⟩ := rfl

set_option maxRecDepth 10000 in
set_option maxHeartbeats 2000000 in
theorem digits_ok (k : Nat) : ∀ (n : Nat) (w : World), n < k → n ≤ 4398046511104 → Calls Try.prog 39 #[.int .i64 n] w fun e w' => e = .returned (.string ⟨(digitsL n).toArray⟩) ∧ Below w.heap.size w w' := by
  induction k with
  | zero => intro n w h; omega
  | succ k ih =>
    intro n w hk hn
    by_cases h10 : n < 10
    · have e : digitsL n = [digB n] := by rw [digitsL, if_pos h10]
      have hi := digB_int n h10
      have hw : IntKind.u8.wrap (48 + (n : Int)) = 48 + (n : Int) := IntWalk.u8_in _ (by omega)
      rw [e]
      have HC := fun W => conv_new W hi
      have HB := Lib.hid ((Below.refl w.heap.size w).alloc (Nat.le_refl _) (.cells #[.int .u8 (48 + (n : Int))] 5))
      clear ih e hk
      go_enter Try.func39, Try.ntmps39
      go_wp2_with fail
      go_ret
      exact ⟨rfl, HB.out⟩
    · have e : digitsL n = digitsL (n / 10) ++ [digB (n % 10)] := by rw [digitsL, if_neg h10]
      have hi : ((digB (n % 10)).toNat : Int) = 48 + (n : Int) % 10 := by have := digB_int (n % 10) (by omega); omega
      have hw : IntKind.u8.wrap (48 + (n : Int) % 10) = 48 + (n : Int) % 10 := IntWalk.u8_in _ (by omega)
      have HC := fun W => conv_new W hi
      have IH := Lib.hid (fun W => show Calls Try.prog 39 #[.int .i64 ((n : Int) / 10)] W fun e w' => e = .returned (.string ⟨(digitsL (n / 10)).toArray⟩) ∧ Below W.heap.size W w' from ih (n / 10) W (by omega) (by omega))
      have he := Lib.hid e
      have hlen : (digitsL (n / 10)).length ≤ 4398046511104 := by have := digitsL_len (n / 10 + 1) (n / 10) (by omega); omega
      have hcd := conv_one (w := (w.alloc (.cells #[.int .u8 (48 + (n : Int) % 10)] 5)).drew) hi (heap_alloc_new w _) (Below.refl _ _)
      have e1 : IntKind.i64.wrap ((n : Int) / 10) = (n : Int) / 10 := IntWalk.i64_in _ (by omega)
      have e2 : (n : Int).tmod 10 = (n : Int) % 10 := Int.tmod_eq_emod_of_nonneg (by omega)
      have e3 : IntKind.i64.wrap (48 + (n : Int) % 10) = 48 + (n : Int) % 10 := IntWalk.i64_in _ (by omega)
      clear ih e hk
      go_enter Try.func39, Try.ntmps39
      go_wp2_with fail
      go_region_with (go_at_call 39; (with_reducible refine (IH.out _).mono ?_); rintro e w1 ⟨rfl, hB⟩; have hBh := Lib.hid hB; (first | have hcv := conv_one (w := (w.alloc (.cells #[.int .u8 (48 + (n : Int) % 10)] 5)).drew) hi (heap_alloc_new w _) hB | skip); clear hB)
      all_goals
        go_wp2_with fail
        go_ret
        refine ⟨by rw [he.out]; rfl, ?_⟩
        first
          | exact ((Below.refl w.heap.size w).drew.trans hBh.out).alloc (by have := hBh.out.size; simpa using this) _
          | exact ((Below.refl w.heap.size w).alloc (Nat.le_refl _) _).drew.trans (hBh.out.mono (by simp))
theorem digits_at (n : Nat) (w : World) (hn : n ≤ 4398046511104) : Calls Try.prog 39 #[.int .i64 n] w fun e w' => e = .returned (.string ⟨(digitsL n).toArray⟩) ∧ Below w.heap.size w w' := digits_ok (n + 1) n w (by omega) hn

/-! ### Write -/
def writeL (args : List (List UInt8)) : List UInt8 := [42] ++ digitsL args.length ++ [13, 10] ++ (args.map fun a => [36] ++ digitsL a.length ++ [13, 10] ++ a ++ [13, 10]).flatten
def bulkW (a : List UInt8) : List UInt8 := [36] ++ digitsL a.length ++ [13, 10] ++ a ++ [13, 10]
theorem writeL_eq (args : List (List UInt8)) : writeL args = [42] ++ digitsL args.length ++ [13, 10] ++ (args.map bulkW).flatten := rfl
theorem take_flat {args : List (List UInt8)} {k : Nat} {x : List UInt8} (h : args[k]? = some x) : ((args.take (k + 1)).map bulkW).flatten = ((args.take k).map bulkW).flatten ++ bulkW x := by
  rw [List.take_add_one, h]; simp
theorem digits_short (n : Nat) (h : n ≤ 4398046511104) : (digitsL n).length ≤ 13 := by
  have step : ∀ m, ¬ m < 10 → (digitsL m).length = (digitsL (m / 10)).length + 1 := fun m hm => by rw [digitsL, if_neg hm]; simp
  have base : ∀ m, m < 10 → (digitsL m).length = 1 := fun m hm => by rw [digitsL, if_pos hm]; rfl
  have gen : ∀ (k m : Nat), m < 10 ^ (k + 1) → (digitsL m).length ≤ k + 1 := by
    intro k
    induction k with
    | zero => intro m hm; rw [base m (by simpa using hm)]; exact Nat.le_refl _
    | succ k ih =>
      intro m hm
      by_cases h10 : m < 10
      · rw [base m h10]; omega
      · rw [step m h10]
        have := ih (m / 10) (by rw [Nat.pow_succ] at hm; omega)
        omega
  exact gen 12 n (by omega)
end Go.Proofs.Ytgdgnpjgemcjgaa
