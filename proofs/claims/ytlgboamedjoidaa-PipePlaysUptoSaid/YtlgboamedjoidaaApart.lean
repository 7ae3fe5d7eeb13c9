import Derived.Test.YtlgboamedjoidaaPlain
namespace Go.Proofs.Ytlgboamedjoidaa
open Go Go.RowKit

/-- Since W: nothing that was there has turned, and none of it has a role. -/
structure Base (W : World) (o : Roles) (w : World) : Prop where
  below : Below W.heap.size W w
  un : ∀ b, b < W.heap.size → o b = []
section
variable {W w w' : World} {o o' : Roles} {r : List Nat} {a : Nat}
theorem Base.start (W : World) : Base W none0 W := ⟨Below.refl _ _, fun _ _ => rfl⟩
theorem Base.step (h : Base W o w) (s : Stp (a :: r) o w o' w') : Base W o' w' :=
  ⟨h.below.trans ⟨s.os, s.tape, s.output, s.size, fun k hk => s.block k (Nat.lt_of_lt_of_le hk h.below.size) (by rw [h.un k hk]; simp)⟩, fun b hb => by rw [s.old b (Nat.lt_of_lt_of_le hb h.below.size)]; exact h.un b hb⟩
theorem Base.alloc (h : Base W o w) (x : Obj) (r : List Nat) : Base W (o.put w.heap.size r) (w.alloc x) :=
  ⟨h.below.alloc h.below.size x, fun b hb => by have := h.below.size; rw [Roles.put_other (by omega)]; exact h.un b hb⟩
theorem Base.drewN (h : Base W o w) (k : Nat) : Base W o (w.drewN k) := ⟨below_drewN h.below k, h.un⟩
theorem Base.later (h : Base W o w) (hb : Below w.heap.size w w') : Base W o w' := ⟨h.below.trans (hb.mono h.below.size), h.un⟩
theorem Below.fromN {B : Nat} {k : Nat} (h : Below B (w.drewN k) w') : Below B w w' := ⟨h.os, h.tape, h.output, h.size, h.block⟩
theorem Base.cell (h : Base W o w) {b off : Nat} {v : Value} (hc : W.cell? ⟨b, off, none⟩ = some v) : w.cell? ⟨b, off, none⟩ = some v := by
  rw [World.cell?_of_block (w := W) (h.below.block b (World.block_lt_of_cell? W _ hc))]; exact hc
end

section
variable {o : Roles} {w : World} {r : List Nat} {p : Nat} {ps : List Nat} {n : NI}
def roomV (win : Nat) (c : CI) : Int := if servedE c = 0 then (win : Int) - (c.dn.length - c.tk : Nat) else 0
set_option maxHeartbeats 400000 in
theorem Room_q (h : Net o w r p ps n) {i b : Nat} {c : CI} (hb : ps[i]? = some b) (hi : n.conns[i]? = some c) :
    Calls Try.prog 20 #[ptr p, .int .i64 i] w fun e w' => e = .returned (.int .i64 (roomV n.win c)) ∧ ∃ k, w' = w.drewN k := by
  have H := served_in h hb hi
  unfold roomV
  by_cases hE : servedE c = 0
  · rw [pair_ok hE] at H
    rw [if_pos hE]
    obtain ⟨uv, dv, hC⟩ := h.get hb hi
    obtain ⟨a, cap, hv, _⟩ := hC.dn.slice
    have H2 := room_ok b 2 w dv a c.dn.length cap c.tk n.win (hC.blk.cell 2) hv (hC.blk.cell 3) (hC.blk.cell 4) hC.dnS hC.tkle (by obtain ⟨_, h⟩ := h; exact h.winle)
    generalize (n.win : Int) - (c.dn.length - c.tk : Nat) = E at *
    clear h hb hi hE hC hv
    unfold ptr at *
    go_enter Try.func20, Try.ntmps20
    go_wp2_with (first | (go_at_call 44; refine H.mono ?_; rintro e w' ⟨rfl, rfl⟩) | (go_at_call 45; refine H2.mono ?_; rintro e w' ⟨rfl, k, rfl⟩))
    go_ret
    exact ⟨rfl, _, rfl⟩
  · rw [pair_no hE] at H
    rw [if_neg hE]
    generalize servedE c = E at *
    clear h hb hi hE
    unfold ptr at *
    go_enter Try.func20, Try.ntmps20
    go_wp2_with (go_at_call 44; refine H.mono ?_; rintro e w' ⟨rfl, rfl⟩)
    go_ret
    exact ⟨rfl, 0, rfl⟩
set_option maxHeartbeats 400000 in
theorem Room_qout (h : Net o w r p ps n) (c : Int) (hb : outR ps c) :
    Calls Try.prog 20 #[ptr p, .int .i64 c] w fun e w' => e = .returned (.int .i64 0) ∧ ∃ k, w' = w.drewN k := by
  have H := served_out h c hb
  clear hb h
  unfold ptr at *
  go_enter Try.func20, Try.ntmps20
  go_wp2_with (go_at_call 44; refine H.mono ?_; rintro e w' ⟨rfl, rfl⟩)
  go_ret
  exact ⟨rfl, 0, rfl⟩
end

def fitE (c : Int) : Int := if c < 1 ∨ 1048576 < c then 1 else 0
set_option maxHeartbeats 400000 in
theorem Fit_ok (w : World) (c : Int) : Calls Try.prog 11 #[.int .i64 c] w fun e w' => e = .returned (.int .i64 (fitE c)) ∧ w' = w := by
  unfold fitE
  by_cases h1 : c < 1
  · rw [if_pos (.inl h1)]
    go_enter Try.func11, Try.ntmps11
    go_wp2
    go_ret
    exact ⟨rfl, rfl⟩
  · by_cases h2 : 1048576 < c
    · rw [if_pos (.inr h2)]
      go_enter Try.func11, Try.ntmps11
      go_wp2
      go_ret
      exact ⟨rfl, rfl⟩
    · rw [if_neg (by omega)]
      go_enter Try.func11, Try.ntmps11
      go_wp2
      go_ret
      exact ⟨rfl, rfl⟩

/-- The calls, as they lie in memory. -/
def OpsAt (w : World) (a : Option Addr) (ops : List OpM) : Prop :=
  ∀ i o, ops[i]? = some o → OpOk o ∧ ∃ b off, a = some ⟨b, off, none⟩ ∧ ∀ j u, (opCells o)[j]? = some u → w.cell? ⟨b, off + i * 4 + j, none⟩ = some u

def ApartRel (W : World) (pa pb : Nat) (ops : List OpM) (win : Nat) (iv : Value) (wr : World) : Prop :=
  ∃ (k : Nat) (o : Roles) (psA psB : List Nat) (nA nB : NI) (x : CI), k ≤ ops.length ∧ iv = .int .i64 k ∧ Base W o wr ∧ Net o wr [0] pa psA nA ∧ Net o wr [1] pb psB nB ∧ Twin nA nB win (letters (ops.take k)) x

theorem letters_take (ops : List OpM) (k : Nat) (o : OpM) (h : ops[k]? = some o) : letters (ops.take (k + 1)) = letters (ops.take k) + o.data.length := by
  rw [List.take_add_one, h]
  simp [letters]
theorem letters_take_le (ops : List OpM) (k : Nat) : letters (ops.take k) ≤ letters ops := by
  have h : letters ops = letters (ops.take k) + letters (ops.drop k) := by
    unfold letters
    rw [← List.sum_append, ← List.map_append, List.take_append_drop]
  omega

set_option maxRecDepth 100000 in
set_option maxHeartbeats 1000000 in
theorem apart_bad (win : Int) (v : Value) (w : World) (h : fitE win ≠ 0) : Calls Try.prog 6 #[.int .i64 win, v] w fun e w' => e = .returned (.bool true) ∧ Below w.heap.size w w' := by
  have hw : win < 1 ∨ 1048576 < win := by unfold fitE at h; split at h; assumption; exact absurd rfl h
  have hf : fitE win = 1 := by unfold fitE; rw [if_pos hw]
  have HN := fun w => New_bad w win hw
  have HF := fun w => Fit_ok w win
  rw [hf] at HF
  have HS := sure_ok
  clear h hw hf
  go_enter Try.func6, Try.ntmps6
  go_wp2_with fail
  refine (HN _).mono ?_; rintro e w' ⟨rfl, rfl⟩
  go_wp2_with fail
  refine (HN _).mono ?_; rintro e w' ⟨rfl, rfl⟩
  go_wp2_with fail
  refine (HF _).mono ?_; rintro e w' ⟨rfl, rfl⟩
  go_wp2_with fail
  refine (HS _).mono ?_; rintro e w2 ⟨rfl, hB⟩
  go_wp2_with fail
  go_ret
  exact ⟨rfl, hB⟩
end Go.Proofs.Ytlgboamedjoidaa
