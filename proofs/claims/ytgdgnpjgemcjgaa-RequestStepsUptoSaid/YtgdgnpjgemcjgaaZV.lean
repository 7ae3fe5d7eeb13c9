import Derived.Test.YtgdgnpjgemcjgaaZU
namespace Go.Proofs.Ytgdgnpjgemcjgaa
open Go Go.RowKit
/-! ### Steps that write what has one of several roles -/
structure StpP (A : List Nat → Prop) (o : Roles) (w : World) (o' : Roles) (w' : World) : Prop where
  os : w'.os = w.os
  tape : w'.tape = w.tape
  output : w'.output = w.output
  size : w.heap.size ≤ w'.heap.size
  old : ∀ b, b < w.heap.size → o' b = o b
  block : ∀ b, b < w.heap.size → ¬ A (o b) → w'.heap[b]? = w.heap[b]?
theorem StpP.refl (A : List Nat → Prop) (o : Roles) (w : World) : StpP A o w o w := ⟨rfl, rfl, rfl, Nat.le_refl _, fun _ _ => rfl, fun _ _ _ => rfl⟩
theorem StpP.trans {A : List Nat → Prop} {o o1 o2 : Roles} {w w1 w2 : World} (h : StpP A o w o1 w1) (k : StpP A o1 w1 o2 w2) : StpP A o w o2 w2 :=
  ⟨k.os.trans h.os, k.tape.trans h.tape, k.output.trans h.output, Nat.le_trans h.size k.size,
   fun b hb => (k.old b (Nat.lt_of_lt_of_le hb h.size)).trans (h.old b hb),
   fun b hb hr => (k.block b (Nat.lt_of_lt_of_le hb h.size) (by rw [h.old b hb]; exact hr)).trans (h.block b hb hr)⟩
theorem Stp.toP {A : List Nat → Prop} {r : List Nat} {o o' : Roles} {w w' : World} (h : Stp r o w o' w') (hA : ∀ s, r <+: s → A s) : StpP A o w o' w' :=
  ⟨h.os, h.tape, h.output, h.size, h.old, fun b hb hn => h.block b hb (fun hp => hn (hA _ hp))⟩
theorem StpP.toStp {A : List Nat → Prop} {r : List Nat} {o o' : Roles} {w w' : World} (h : StpP A o w o' w') (hA : ∀ s, A s → r <+: s) : Stp r o w o' w' :=
  ⟨h.os, h.tape, h.output, h.size, h.old, fun b hb hn => h.block b hb (fun hp => hn (hA _ hp))⟩
theorem Row.keepP {A : List Nat → Prop} {o o' : Roles} {w w' : World} {s : List Nat} {e : TypeId} {sz n : Nat} {v : Value} {xs : List Value} (h : Row o w s e sz v n xs) (st : StpP A o w o' w') (hn : ¬ A s) : Row o' w' s e sz v n xs :=
  ⟨ownsRow_agree h.own fun g hg => st.block g (h.lt g hg) (by rw [h.role g hg]; exact hn), fun g hg => by rw [st.old g (h.lt g hg)]; exact h.role g hg⟩
theorem StpP.drewN {A : List Nat → Prop} {o o' : Roles} {w w' : World} (h : StpP A o w o' w') (n : Nat) : StpP A o w o' (w'.drewN n) := ⟨h.os, h.tape, h.output, h.size, h.old, h.block⟩

theorem rcheck_ok {b a n : Int} (h : LimI b a n) (w : World) : Calls Try.prog 15 #[limV b a n] w fun e w' => e = .returned (.int .i64 0) ∧ Below w.heap.size w w' := by
  obtain ⟨⟨h1, h2⟩, ⟨h3, h4⟩, h5, h6⟩ := h
  unfold limV
  go_enter Try.func15, Try.ntmps15
  go_wp2
  go_ret
  exact ⟨rfl, (Below.refl _ _).alloc (Nat.le_refl _) _⟩
theorem rcheck_bad {b a n : Int} (h : ¬ LimI b a n) (w : World) : Calls Try.prog 15 #[limV b a n] w fun e w' => e = .returned (.int .i64 40) ∧ Below w.heap.size w w' := by
  unfold LimI at h
  have hB := Lib.hid ((Below.refl w.heap.size w).alloc (Nat.le_refl _) (.cells #[.int .i64 b, .int .i64 a, .int .i64 n] 23))
  unfold limV
  by_cases h1 : b < 1
  · clear h
    go_enter Try.func15, Try.ntmps15
    go_wp2
    go_ret
    exact ⟨rfl, hB.out⟩
  · by_cases h2 : 1048576 < b
    · clear h
      go_enter Try.func15, Try.ntmps15
      go_wp2
      go_ret
      exact ⟨rfl, hB.out⟩
    · by_cases h3 : a < 1
      · clear h
        go_enter Try.func15, Try.ntmps15
        go_wp2
        go_ret
        exact ⟨rfl, hB.out⟩
      · by_cases h4 : 65536 < a
        · clear h
          go_enter Try.func15, Try.ntmps15
          go_wp2
          go_ret
          exact ⟨rfl, hB.out⟩
        · by_cases h5 : n < 32
          · clear h
            go_enter Try.func15, Try.ntmps15
            go_wp2
            go_ret
            exact ⟨rfl, hB.out⟩
          · have h6 : 65536 < n := by omega
            clear h
            go_enter Try.func15, Try.ntmps15
            go_wp2
            go_ret
            exact ⟨rfl, hB.out⟩
/-! ### The document's reader -/
abbrev rrC (R : RI) (S : List UInt8) (at_ : Nat) (en : Bool) : Array Value := #[.int .i64 R.l.bulk, .int .i64 R.l.args, .int .i64 R.l.line, .string ⟨S.toArray⟩, .int .i64 at_, .string ⟨R.fault.toArray⟩, .bool en]
structure RRd (o : Roles) (w : World) (q : List Nat) (p : Nat) (R : RI) (S : List UInt8) (en : Bool) : Prop where
  blk : Blk o w q p (rrC R S R.used en) 46
  lim : LimOk R.l
  few : S.length ≤ 1099511627776
  le : R.used ≤ S.length
  go : en = false → R.fault = [] ∧ R.held = S.drop R.used
  ended : en = true → R.fault ≠ [] ∧ R.held = []
section
variable {o : Roles} {w : World} {q : List Nat} {p : Nat} {R : RI} {S : List UInt8} {en : Bool}
theorem RRd.keepP {A : List Nat → Prop} {o' : Roles} {w' : World} (h : RRd o w q p R S en) (st : StpP A o w o' w') (hn : ¬ A q) : RRd o' w' q p R S en :=
  ⟨⟨by rw [st.block p h.blk.lt (by rw [h.blk.role]; exact hn)]; exact h.blk.heap, by rw [st.old p h.blk.lt]; exact h.blk.role⟩, h.lim, h.few, h.le, h.go, h.ended⟩
theorem rheld_ok (h : RRd o w q p R S en) : Calls Try.prog 29 #[.pointer (some ⟨p, 0, none⟩)] w fun e w' => e = .returned (.int .i64 R.held.length) ∧ ∃ k, w' = w.drewN k := by
  have hc := h.blk.cell
  have hle := h.le
  have hfew := h.few
  have hsz : (⟨S.toArray⟩ : ByteArray).size = S.length := by simp [ByteArray.size]
  cases en with
  | true =>
    have he : R.held.length = 0 := by rw [(h.ended rfl).2]; rfl
    rw [he]
    clear he h
    go_enter Try.func29, Try.ntmps29
    go_wp2
    go_ret
    exact ⟨rfl, 0, rfl⟩
  | false =>
    have he : (R.held.length : Int) = (S.length : Int) - R.used := by rw [(h.go rfl).2]; simp; omega
    have HE := Lib.hid he
    clear he h
    go_enter Try.func29, Try.ntmps29
    go_wp2
    go_quiet (fail)
    go_wp2
    go_ret
    exact ⟨by rw [HE.out]; rfl, _, rfl⟩
theorem rfeed_ok (h : RRd o w q p R S en) (s : List UInt8) (hs : S.length + s.length ≤ 1099511627776) :
    Calls Try.prog 24 #[.pointer (some ⟨p, 0, none⟩), .string ⟨s.toArray⟩] w fun e w' => e = .returned (.tuple #[]) ∧ RRd o w' q p (R.feed s) (if en then S else S ++ s) en ∧ Stp q o w o w' := by
  have hc := h.blk.cell
  have hf := h.blk.free
  cases en with
  | true =>
    have he : R.feed s = R := by unfold RI.feed; rw [if_neg (h.ended rfl).1]
    have HN := Lib.hid h
    rw [he]
    clear h he
    go_enter Try.func24, Try.ntmps24
    go_wp2
    go_end0
    exact ⟨rfl, HN.out, Stp.refl _ _ _⟩
  | false =>
    obtain ⟨h1, h2⟩ := h.go rfl
    have he : R.feed s = { R with held := R.held ++ s } := by unfold RI.feed; rw [if_pos h1]
    have hN : RRd o (w.setCell ⟨p, 3, none⟩ (.string ⟨(S ++ s).toArray⟩)) q p (R.feed s) (S ++ s) false := by
      rw [he]
      exact ⟨h.blk.setCell 3 (.string ⟨(S ++ s).toArray⟩), h.lim, by simp; omega, by have := h.le; simp; omega, fun _ => ⟨h1, by rw [List.drop_append_of_le_length h.le, ← h2]⟩, fun e => by cases e⟩
    have hS : Stp q o w o (w.setCell ⟨p, 3, none⟩ (.string ⟨(S ++ s).toArray⟩)) := (Stp.refl q o w).setCell (by rw [show o p = q from h.blk.role]; exact List.prefix_refl _) _
    have HN := Lib.hid hN
    have HS := Lib.hid hS
    clear hN hS h he h1 h2
    go_enter Try.func24, Try.ntmps24
    go_wp2
    go_end0
    exact ⟨rfl, HN.out, HS.out⟩
end
end Go.Proofs.Ytgdgnpjgemcjgaa
