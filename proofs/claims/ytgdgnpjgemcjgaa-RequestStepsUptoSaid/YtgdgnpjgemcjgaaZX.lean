import Derived.Test.YtgdgnpjgemcjgaaZN
import Derived.Deep.LoopGhost
namespace Go.Proofs.Ytgdgnpjgemcjgaa
open Go Go.RowKit
theorem rnext_ended {o : Roles} {w : World} {q : List Nat} {p : Nat} {R : RI} {S : List UInt8} (r : List Nat) (h : RRd o w q p R S true) :
    Calls Try.prog 26 #[.pointer (some ⟨p, 0, none⟩)] w (RNextDid o w q r p R S) := by
  have hc := h.blk.cell
  have hx : R.next = (.fault, R) := by unfold RI.next; rw [if_pos (h.ended rfl).1]
  have D : ∀ k, RNextDid o w q r p R S (.returned (.tuple #[.slice none 0 0, .int .i64 2])) (w.drewN k) := fun k => ⟨o, true, (StpP.refl _ _ _).drewN k, by rw [hx]; exact ⟨h.blk.drewN k, h.lim, h.few, h.le, h.go, h.ended⟩, by rw [hx]; exact rfl⟩
  have HD := Lib.hid D
  clear D hx h
  go_enter Try.func26, Try.ntmps26
  go_wp2_with fail
  go_loopg [2] 0 (fun g v wr => v = .slice none 0 0 ∧ wr = w ∧ g = 0)
  case atStart => exact ⟨rfl, rfl, rfl⟩
  case round =>
    obtain ⟨rfl, rfl, hg⟩ := hrel
    clear hg
    go_wp2_with fail
    go_quiet (fail)
    go_wp2_with fail
    go_ret2
    exact HD.out _
theorem rnext_ok {o : Roles} {w : World} {q : List Nat} {p : Nat} {R : RI} {S : List UInt8} {en : Bool} (r : List Nat) (h : RRd o w q p R S en) (hrq : ¬ r <+: q) (hqr : ¬ q <+: r ++ [0] ++ [0]) (hrq8 : ¬ r <+: q ++ [8]) :
    Calls Try.prog 26 #[.pointer (some ⟨p, 0, none⟩)] w (RNextDid o w q r p R S) := by
  cases en with
  | true => exact rnext_ended r h
  | false => exact rnext_go r h hrq hqr hrq8

/-! ### The document's Whole -/
abbrev rreqRole (r : List Nat) (i : Nat) : List Nat := r ++ [1, i] ++ [0] ++ [0]
theorem LL.keepP {A : List Nat → Prop} {o o' : Roles} {w w' : World} {r : List Nat} {f : Nat → List Nat} {v : Value} {reqs : List (List (List UInt8))} (h : LL o w r f v reqs) (st : StpP A o w o' w') (hn : ¬ A r) (hf : ∀ i, i < reqs.length → ¬ A (f i)) : LL o' w' r f v reqs := by
  obtain ⟨vs, h1, h2, h3⟩ := h
  exact ⟨vs, h1.keepP st hn, h2, fun i u ws hu hw => Row.keepP (h3 i u ws hu hw) st (hf i (List.getElem?_eq_some_iff.1 hw).1)⟩
theorem two_stp {r : List Nat} {k : Nat} {o o' : Roles} {w w' : World} (h : StpP (two (r ++ [1, k]) (r ++ [0])) o w o' w') : Stp r o w o' w' :=
  h.toStp (fun s hs => by
    rcases hs with hs | hs
    · exact (List.prefix_append _ _).trans hs
    · exact (List.prefix_append _ _).trans hs)
theorem rLL_keep {r : List Nat} {k : Nat} {o o' : Roles} {w w' : World} {v : Value} {acc : List (List (List UInt8))} (hL : LL o w (r ++ [2]) (rreqRole r) v acc) (hk : acc.length = k) (h : StpP (two (r ++ [1, k]) (r ++ [0])) o w o' w') : LL o' w' (r ++ [2]) (rreqRole r) v acc := by
  refine hL.keepP h (fun hs => ?_) (fun i hi hs => ?_)
  · rcases hs with hs | hs
    · exact np_app (by simp) hs
    · exact np_app (by simp) hs
  · simp only [rreqRole, List.append_assoc] at hs
    rcases hs with hs | hs
    · exact np_app (by simp; omega) hs
    · exact np_app (by simp) hs
def RWholeDid (o : Roles) (w : World) (r : List Nat) (R0 : RI) (e : Ending) (w' : World) : Prop :=
  ∃ v o', e = .returned (.tuple #[v, .string ⟨(wholeR R0).2.fault.toArray⟩, .int .i64 (wholeR R0).2.used]) ∧ LL o' w' (r ++ [2]) (rreqRole r) v (wholeR R0).1 ∧ Stp r o w o' w'
def RWholeRel (o : Roles) (w : World) (r : List Nat) (p : Nat) (R0 : RI) (S : List UInt8) (g : Nat) (v : Value) (wr : World) : Prop :=
  ∃ R en acc o', g = R.held.length ∧ RRd o' wr (r ++ [0]) p R S en ∧ LL o' wr (r ++ [2]) (rreqRole r) v acc ∧ WholeI R0 acc R ∧ acc.length + R.held.length ≤ R0.held.length ∧ Stp r o w o' wr
set_option maxRecDepth 10000 in
set_option maxHeartbeats 2000000 in
theorem rwhole_ok {b a n : Int} (hl : LimI b a n) (o : Roles) (w : World) (r : List Nat) (s : List UInt8) (hs : s.length ≤ 1099511627776) :
    Calls Try.prog 12 #[limV b a n, .string ⟨s.toArray⟩] w (RWholeDid o w r (start (limL b a n) s)) := by
  have HC := Lib.hid (fun W => rcheck_ok hl W)
  have hb : LimOk (limL b a n) := by
    obtain ⟨⟨h1, h2⟩, ⟨h3, h4⟩, h5, h6⟩ := hl
    exact ⟨⟨by show 1 ≤ b.toNat; omega, by show b.toNat ≤ _; omega⟩, ⟨by show 1 ≤ a.toNat; omega, by show a.toNat ≤ _; omega⟩, ⟨by show _ ≤ n.toNat; omega, by show n.toNat ≤ _; omega⟩⟩
  have e1 : ((b.toNat : Nat) : Int) = b := by obtain ⟨⟨h1, h2⟩, _⟩ := hl; omega
  have e2 : ((a.toNat : Nat) : Int) = a := by obtain ⟨_, ⟨h1, h2⟩, _⟩ := hl; omega
  have e3 : ((n.toNat : Nat) : Int) = n := by obtain ⟨_, _, h1, h2⟩ := hl; omega
  have hC : rrC (start (limL b a n) s) s 0 false = #[.int .i64 b, .int .i64 a, .int .i64 n, .string ⟨s.toArray⟩, .int .i64 0, .string ⟨#[]⟩, .bool false] := by
    unfold rrC start limL; simp [e1, e2, e3]
  have HCC := Lib.hid hC
  clear hl e1 e2 e3 hC
  unfold limV at *
  go_enter Try.func12, Try.ntmps12
  go_wp2_with fail
  refine (HC.out _).mono ?_; rintro e w1 ⟨rfl, hB⟩
  have hb0 : w1.cell? ⟨w.heap.size, 0, none⟩ = some (.int .i64 b) := by
    have := hB.cell (p := ⟨w.heap.size, 0, none⟩) (by simp); rw [this]; simp [go_sem]
  have hb1 : w1.cell? ⟨w.heap.size, 1, none⟩ = some (.int .i64 a) := by
    have := hB.cell (p := ⟨w.heap.size, 1, none⟩) (by simp); rw [this]; simp [go_sem]
  have hb2 : w1.cell? ⟨w.heap.size, 2, none⟩ = some (.int .i64 n) := by
    have := hB.cell (p := ⟨w.heap.size, 2, none⟩) (by simp); rw [this]; simp [go_sem]
  have hst : Stp r o w o w1 := Stp.ofBelow r o (((Below.refl w.heap.size w).alloc (Nat.le_refl _) _).trans (hB.mono (by simp)))
  have hst1 := hst.alloc (r' := r ++ [0]) (.cells (rrC (start (limL b a n) s) s 0 false) 46) w1.heap.size rfl
  have hR : RRd (o.put w1.heap.size (r ++ [0])) (w1.alloc (.cells (rrC (start (limL b a n) s) s 0 false) 46)) (r ++ [0]) w1.heap.size (start (limL b a n) s) s false :=
    ⟨Blk.new o w1 (r ++ [0]) _ 46 _ rfl, hb, hs, Nat.zero_le _, fun _ => ⟨rfl, rfl⟩, (fun h => by cases h)⟩
  have hat : RWholeRel o w r w1.heap.size (start (limL b a n) s) s s.length (.slice none 0 0) (w1.alloc (.cells (rrC (start (limL b a n) s) s 0 false) 46)) :=
    ⟨_, false, [], _, rfl, hR, .nil _ _ _ _, .start _, by simp [start], hst1⟩
  rw [HCC.out] at hat
  clear hst hst1 hR hB
  have hs0 : (start (limL b a n) s).held.length = s.length := rfl
  have hsh := Lib.hid hs0
  clear hs0 HCC
  generalize start (limL b a n) s = R0 at *
  go_wp2_with fail
  go_loopg [8] s.length (fun g v wr => RWholeRel o w r w1.heap.size R0 s g v wr)
  case atStart => exact hat
  case round =>
    obtain ⟨R, en, acc, o', hg, hR, hL, hI, hlen, hst⟩ := hrel
    clear hat
    have HX := rnext_ok (r := r ++ [1, acc.length]) hR (np_app (by simp)) (by simp only [List.append_assoc]; exact np_app (by simp)) (by rw [List.append_assoc]; exact np_app (by simp))
    have HL := Lib.hid hL
    have HI := Lib.hid hI
    have HS := Lib.hid hst
    have hgh := Lib.hid hg
    have hlenh : acc.length + R.held.length ≤ 1099511627776 := by have := hsh.out; omega
    have hlen2 := Lib.hid hlen
    clear hL hI hst hg hlen hR hb0 hb1 hb2
    go_wp2_with fail
    refine HX.mono ?_; rintro e w3 ⟨o3, en3, hP, hR3, hA⟩
    have hL3 := rLL_keep HL.out rfl hP
    have HS3 := Lib.hid (HS.out.trans (two_stp hP))
    clear hP HL HS HX
    rcases hq : R.next with ⟨x, R'⟩
    rw [hq] at hR3 hA
    simp only at hR3 hA
    have hc3 := hR3.blk.cell
    cases x with
    | more =>
      obtain rfl : e = _ := hA
      have hW := HI.out.done hq (by simp)
      have D := Lib.hid (fun k => show RWholeDid o w r R0 (.returned (.tuple #[_, .string ⟨R'.fault.toArray⟩, .int .i64 R'.used])) (w3.drewN k) from ⟨_, o3, by rw [hW], by rw [hW]; exact hL3.drewN k, HS3.out.drewN k⟩)
      clear hW hq hL3 hR3
      go_wp2_with fail
      go_quiet (fail)
      go_wp2_with fail
      go_ret3
      exact D.out _
    | fault =>
      obtain rfl : e = _ := hA
      have hW := HI.out.done hq (by simp)
      have D := Lib.hid (fun k => show RWholeDid o w r R0 (.returned (.tuple #[_, .string ⟨R'.fault.toArray⟩, .int .i64 R'.used])) (w3.drewN k) from ⟨_, o3, by rw [hW], by rw [hW]; exact hL3.drewN k, HS3.out.drewN k⟩)
      clear hW hq hL3 hR3
      go_wp2_with fail
      go_quiet (fail)
      go_wp2_with fail
      go_ret3
      exact D.out _
    | one ws =>
      obtain ⟨u, rfl, hT⟩ := hA
      obtain ⟨ua, ucap, rfl, _⟩ := hT.slice
      have hlt := next_len hq
      have hT2 : Texts o3 w3 (rreqRole r acc.length) (.slice ua ws.length ucap) ws := hT
      have hacc : acc.length ≤ 1099511627776 := by omega
      have HN := Lib.hid (HI.out.one hq)
      have HR := Lib.hid hR3
      have HL := Lib.hid hL3
      have HT := Lib.hid hT2
      have hrr : ∀ i, i ≤ acc.length → ¬ r ++ [2] <+: rreqRole r i := fun i _ => by simp only [rreqRole, List.append_assoc]; exact np_app (by simp)
      have hrrh := Lib.hid hrr
      clear hrr hq hR3 hL3 hT hT2 HI hc3
      go_wp2_with (
        at_builtin
        refine wpList_pushL rfl _ _ rfl rfl HL.out HT.out rfl hacc hrrh.out ?_
        intro v' w4 o4 hrow hst
        have HW := Lib.hid hrow
        have HRR := Lib.hid (HR.out.keepP (A := fun s => r ++ [2] <+: s) (hst.toP (fun _ h => h)) (np_app (by simp)))
        have HSS := Lib.hid (HS3.out.trans (hst.wide (List.prefix_append _ _)))
        clear hrow hst HL)
      go_roundg R'.held.length
      case measure => rw [hgh.out]; exact hlt
      case rel => exact ⟨R', en3, _, o4, rfl, HRR.out, HW.out, HN.out, by have := hlen2.out; simp; omega, HSS.out⟩
theorem rwhole_bad {b a n : Int} (hl : ¬ LimI b a n) (w : World) (s : List UInt8) :
    Calls Try.prog 12 #[limV b a n, .string ⟨s.toArray⟩] w fun e w' => e = .returned (.tuple #[.slice none 0 0, .string ⟨#[]⟩, .int .i64 0]) ∧ Below w.heap.size w w' := by
  have HC := Lib.hid (fun W => rcheck_bad hl W)
  clear hl
  unfold limV at *
  go_enter Try.func12, Try.ntmps12
  go_wp2_with fail
  refine (HC.out _).mono ?_; rintro e w1 ⟨rfl, hB⟩
  have HB := Lib.hid (((Below.refl w.heap.size w).alloc (Nat.le_refl _) _).trans (hB.mono (by simp)))
  clear hB
  go_wp2_with fail
  go_ret3
  exact ⟨rfl, HB.out⟩
theorem whole_bad {b a n : Int} (hl : ¬ LimI b a n) (w : World) (s : List UInt8) :
    Calls Try.prog 11 #[limV b a n, .string ⟨s.toArray⟩] w fun e w' => e = .returned (.tuple #[.slice none 0 0, .string ⟨#[]⟩, .int .i64 0]) ∧ Below w.heap.size w w' := by
  have HC := Lib.hid (fun W => new_bad hl W)
  clear hl
  unfold limV at *
  go_enter Try.func11, Try.ntmps11
  go_wp2_with fail
  refine (HC.out _).mono ?_; rintro e w1 ⟨rfl, hB⟩
  have HB := Lib.hid (((Below.refl w.heap.size w).alloc (Nat.le_refl _) _).trans (hB.mono (by simp)))
  clear hB
  go_wp2_with fail
  go_ret3
  exact ⟨rfl, HB.out⟩
end Go.Proofs.Ytgdgnpjgemcjgaa
