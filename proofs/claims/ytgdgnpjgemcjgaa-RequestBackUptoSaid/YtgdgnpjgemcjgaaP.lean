import Derived.Test.YtgdgnpjgemcjgaaO
namespace Go.Proofs.Ytgdgnpjgemcjgaa
open Go Go.RowKit
def limV (b a n : Int) : Value := .agg #[.int .i64 b, .int .i64 a, .int .i64 n]
def LimI (b a n : Int) : Prop := (1 ≤ b ∧ b ≤ 1048576) ∧ (1 ≤ a ∧ a ≤ 65536) ∧ 32 ≤ n ∧ n ≤ 65536
theorem check_ok {b a n : Int} (h : LimI b a n) (w : World) : Calls Try.prog 14 #[limV b a n] w fun e w' => e = .returned (.int .i64 0) ∧ Below w.heap.size w w' := by
  obtain ⟨⟨h1, h2⟩, ⟨h3, h4⟩, h5, h6⟩ := h
  unfold limV
  go_enter Try.func14, Try.ntmps14
  go_wp2
  go_ret
  exact ⟨rfl, (Below.refl _ _).alloc (Nat.le_refl _) _⟩
theorem check_bad {b a n : Int} (h : ¬ LimI b a n) (w : World) : Calls Try.prog 14 #[limV b a n] w fun e w' => e = .returned (.int .i64 40) ∧ Below w.heap.size w w' := by
  unfold LimI at h
  have hB := Lib.hid ((Below.refl w.heap.size w).alloc (Nat.le_refl _) (.cells #[.int .i64 b, .int .i64 a, .int .i64 n] 23))
  unfold limV
  by_cases h1 : b < 1
  · clear h
    go_enter Try.func14, Try.ntmps14
    go_wp2
    go_ret
    exact ⟨rfl, hB.out⟩
  · by_cases h2 : 1048576 < b
    · clear h
      go_enter Try.func14, Try.ntmps14
      go_wp2
      go_ret
      exact ⟨rfl, hB.out⟩
    · by_cases h3 : a < 1
      · clear h
        go_enter Try.func14, Try.ntmps14
        go_wp2
        go_ret
        exact ⟨rfl, hB.out⟩
      · by_cases h4 : 65536 < a
        · clear h
          go_enter Try.func14, Try.ntmps14
          go_wp2
          go_ret
          exact ⟨rfl, hB.out⟩
        · by_cases h5 : n < 32
          · clear h
            go_enter Try.func14, Try.ntmps14
            go_wp2
            go_ret
            exact ⟨rfl, hB.out⟩
          · have h6 : 65536 < n := by omega
            clear h
            go_enter Try.func14, Try.ntmps14
            go_wp2
            go_ret
            exact ⟨rfl, hB.out⟩

/-! ### A reader -/
structure RI where
  l : Lim
  held : List UInt8
  used : Nat
  fault : List UInt8
inductive NX | more | fault | one (ws : List (List UInt8))
def RI.next (R : RI) : NX × RI :=
  if R.fault ≠ [] then (.fault, R) else
  match reqR R.l R.held with
  | (.ok ws _, rest) => (.one ws, { R with held := rest, used := R.used + (R.held.length - rest.length) })
  | (.more, rest) => (.more, { R with held := rest, used := R.used + (R.held.length - rest.length) })
  | (.fault w, rest) => (.fault, { R with held := [], used := R.used + (R.held.length - rest.length), fault := w })
def RI.feed (R : RI) (s : List UInt8) : RI := if R.fault = [] then { R with held := R.held ++ s } else R
def rdC (R : RI) : Array Value := #[.int .i64 R.l.bulk, .int .i64 R.l.args, .int .i64 R.l.line, .string ⟨R.held.toArray⟩, .int .i64 R.used, .string ⟨R.fault.toArray⟩]
structure Rd (o : Roles) (w : World) (q : List Nat) (p : Nat) (R : RI) : Prop where
  blk : Blk o w q p (rdC R) 74
  lim : LimOk R.l
  few : R.held.length + R.used ≤ 1099511627776

def limL (b a n : Int) : Lim := ⟨b.toNat, a.toNat, n.toNat⟩
theorem new_ok {b a n : Int} (h : LimI b a n) (o : Roles) (w : World) (q : List Nat) : Calls Try.prog 22 #[limV b a n] w fun e w' => ∃ p o', e = .returned (.tuple #[.pointer (some ⟨p, 0, none⟩), .int .i64 0]) ∧ Rd o' w' q p ⟨limL b a n, [], 0, []⟩ ∧ Stp q o w o' w' := by
  have H := fun W => check_ok h W
  have hb : LimOk (limL b a n) := by
    obtain ⟨⟨h1, h2⟩, ⟨h3, h4⟩, h5, h6⟩ := h
    exact ⟨⟨by show 1 ≤ b.toNat; omega, by show b.toNat ≤ _; omega⟩, ⟨by show 1 ≤ a.toNat; omega, by show a.toNat ≤ _; omega⟩, ⟨by show _ ≤ n.toNat; omega, by show n.toNat ≤ _; omega⟩⟩
  have e1 : ((b.toNat : Nat) : Int) = b := by obtain ⟨⟨h1, h2⟩, _⟩ := h; omega
  have e2 : ((a.toNat : Nat) : Int) = a := by obtain ⟨_, ⟨h1, h2⟩, _⟩ := h; omega
  have e3 : ((n.toNat : Nat) : Int) = n := by obtain ⟨_, _, h1, h2⟩ := h; omega
  have hC : rdC ⟨limL b a n, [], 0, []⟩ = #[.int .i64 b, .int .i64 a, .int .i64 n, .string ⟨#[]⟩, .int .i64 0, .string ⟨#[]⟩] := by
    unfold rdC limL; simp [e1, e2, e3]
  have HC := Lib.hid hC
  have HH := Lib.hid H
  clear H h e1 e2 e3 hC
  unfold limV at *
  go_enter Try.func22, Try.ntmps22
  go_wp2_with fail
  refine (HH.out _).mono ?_; rintro e w' ⟨rfl, hB⟩
  have hb0 : w'.cell? ⟨w.heap.size, 0, none⟩ = some (.int .i64 b) := by
    have := hB.cell (p := ⟨w.heap.size, 0, none⟩) (by simp); rw [this]; simp [go_sem]
  have hb1 : w'.cell? ⟨w.heap.size, 1, none⟩ = some (.int .i64 a) := by
    have := hB.cell (p := ⟨w.heap.size, 1, none⟩) (by simp); rw [this]; simp [go_sem]
  have hb2 : w'.cell? ⟨w.heap.size, 2, none⟩ = some (.int .i64 n) := by
    have := hB.cell (p := ⟨w.heap.size, 2, none⟩) (by simp); rw [this]; simp [go_sem]
  have hST : Stp q o w (o.put w'.heap.size q) (w'.alloc (.cells #[.int .i64 b, .int .i64 a, .int .i64 n, .string ⟨#[]⟩, .int .i64 0, .string ⟨#[]⟩] 74)) :=
    (Stp.ofBelow q o (((Below.refl w.heap.size w).alloc (Nat.le_refl _) _).trans (hB.mono (by simp)))).alloc _ _ rfl
  have HS := Lib.hid hST
  clear hST hB
  go_wp2_with fail
  go_ret2
  exact ⟨_, _, rfl, ⟨by rw [HC.out]; exact Blk.new o w' q _ 74 _ rfl, hb, by simp⟩, HS.out⟩
theorem new_bad {b a n : Int} (h : ¬ LimI b a n) (w : World) : Calls Try.prog 22 #[limV b a n] w fun e w' => e = .returned (.tuple #[.pointer none, .int .i64 40]) ∧ Below w.heap.size w w' := by
  have HH := Lib.hid (fun W => check_bad h W)
  clear h
  unfold limV at *
  go_enter Try.func22, Try.ntmps22
  go_wp2_with fail
  refine (HH.out _).mono ?_; rintro e w' ⟨rfl, hB⟩
  have HB := Lib.hid (((Below.refl w.heap.size w).alloc (Nat.le_refl _) _).trans (hB.mono (by simp)))
  clear hB
  go_wp2_with fail
  go_ret2
  exact ⟨rfl, HB.out⟩
end Go.Proofs.Ytgdgnpjgemcjgaa
