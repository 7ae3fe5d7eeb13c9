import Derived.Test.YtgdgnpjgemcjgaaS
import Derived.Deep.LoopGhost
namespace Go.Proofs.Ytgdgnpjgemcjgaa
open Go Go.RowKit
abbrev reqRole (r : List Nat) (i : Nat) : List Nat := r ++ [1, i] ++ [0] ++ [1] ++ [0]
def WholeDid (o : Roles) (w : World) (r : List Nat) (R0 : RI) (e : Ending) (w' : World) : Prop :=
  ∃ v o', e = .returned (.tuple #[v, .string ⟨(wholeR R0).2.fault.toArray⟩, .int .i64 (wholeR R0).2.used]) ∧ LL o' w' (r ++ [2]) (reqRole r) v (wholeR R0).1 ∧ Stp r o w o' w'
def WholeRel (o : Roles) (w : World) (r : List Nat) (p : Nat) (R0 : RI) (g : Nat) (v : Value) (wr : World) : Prop :=
  ∃ R acc o', g = R.held.length ∧ Rd o' wr (r ++ [0]) p R ∧ LL o' wr (r ++ [2]) (reqRole r) v acc ∧ WholeI R0 acc R ∧ acc.length + R.held.length ≤ R0.held.length ∧ Stp r o w o' wr
theorem nextDid_stp {o : Roles} {w w' : World} {r : List Nat} {k p : Nat} {R : RI} {e : Ending} (h : NextDid o w (r ++ [0]) (r ++ [1, k]) p R e w') {v : Value} {acc : List (List (List UInt8))} (hk : acc.length = k) (hL : LL o w (r ++ [2]) (reqRole r) v acc) :
    ∃ o', Rd o' w' (r ++ [0]) p R.next.2 ∧ NextAns o' w' (r ++ [1, k]) R.next.1 e ∧ LL o' w' (r ++ [2]) (reqRole r) v acc ∧ Stp r o w o' w' := by
  obtain ⟨o1, w1, o', h1, h2, h3, h4⟩ := h
  refine ⟨o', h3, h4, (hL.keep h1 (np_app (by simp)) (fun i hi => ?_)).keep h2 (np_app (by simp)) (fun i hi => ?_), (h1.wide (List.prefix_append _ _)).trans (h2.wide (List.prefix_append _ _))⟩
  · simp only [reqRole, List.append_assoc]; exact np_app (by simp; omega)
  · simp only [reqRole, List.append_assoc]; exact np_app (by simp)

set_option maxRecDepth 10000 in
set_option maxHeartbeats 2000000 in
theorem whole_ok {b a n : Int} (hl : LimI b a n) (o : Roles) (w : World) (r : List Nat) (s : List UInt8) (hs : s.length ≤ 1099511627776) :
    Calls Try.prog 11 #[limV b a n, .string ⟨s.toArray⟩] w (WholeDid o w r (start (limL b a n) s)) := by
  have HN := Lib.hid (fun W => new_ok hl o W (r ++ [0]))
  clear hl
  unfold limV at *
  go_enter Try.func11, Try.ntmps11
  go_wp2_with fail
  refine (HN.out _).mono ?_; rintro e w1 ⟨p, o1, rfl, hR, st1⟩
  have HF := feed_ok hR s (by simp; omega)
  have hfeed : (RI.feed ⟨limL b a n, [], 0, []⟩ s) = start (limL b a n) s := by unfold RI.feed start; simp
  rw [hfeed] at HF
  have HS1 := Lib.hid ((Stp.ofBelow r o ((Below.refl w.heap.size w).alloc (Nat.le_refl _) (.cells #[.int .i64 b, .int .i64 a, .int .i64 n] 23))).trans (st1.wide (List.prefix_append _ _)))
  clear st1 hR hfeed HN
  go_wp2_with fail
  refine HF.mono ?_; rintro e w2 ⟨rfl, hR, st2⟩
  have hat : WholeRel o w r p (start (limL b a n) s) s.length (.slice none 0 0) w2 := ⟨start (limL b a n) s, [], o1, rfl, hR, .nil _ _ _ _, .start _, by simp [start], HS1.out.trans (st2.wide (List.prefix_append _ _))⟩
  have hs0 : (start (limL b a n) s).held.length = s.length := rfl
  have hsh := Lib.hid hs0
  clear hR st2 HF HS1 hs0
  generalize start (limL b a n) s = R0 at *
  go_wp2_with fail
  go_loopg [9] s.length (fun g v wr => WholeRel o w r p R0 g v wr)
  case atStart => exact hat
  case round =>
    obtain ⟨R, acc, o', hg, hR, hL, hI, hlen, hst⟩ := hrel
    clear hat
    have HX := next_ok (r := r ++ [1, acc.length]) hR (np_app (by simp)) (by simp only [List.append_assoc]; exact np_app (by simp)) (by simp only [List.append_assoc]; exact np_app (by simp))
    have HL := Lib.hid hL
    have HI := Lib.hid hI
    have HS := Lib.hid hst
    have hgh := Lib.hid hg
    have hlenh : acc.length + R.held.length ≤ 1099511627776 := by have := hsh.out; omega
    have hlen2 := Lib.hid hlen
    clear hL hI hst hg hlen hR
    go_wp2_with fail
    refine HX.mono ?_; rintro e w3 hd
    obtain ⟨o3, hR3, hA, hL3, st3⟩ := nextDid_stp hd rfl HL.out
    have HS3 := Lib.hid (HS.out.trans st3)
    clear hd HL HS st3 HX
    rcases hq : R.next with ⟨x, R'⟩
    rw [hq] at hR3 hA
    simp only at hR3 hA
    cases x with
    | more =>
      obtain rfl : e = _ := hA
      have hW := HI.out.done hq (by simp)
      have F := fault_ok hR3
      have U := used_ok hR3
      have D := Lib.hid (show WholeDid o w r R0 (.returned (.tuple #[_, .string ⟨R'.fault.toArray⟩, .int .i64 R'.used])) w3 from ⟨_, o3, by rw [hW], by rw [hW]; exact hL3, HS3.out⟩)
      clear hW hq hL3 hR3
      go_wp2_with fail
      refine F.mono ?_; rintro e w4 ⟨rfl, rfl⟩
      go_wp2_with fail
      refine U.mono ?_; rintro e w4 ⟨rfl, rfl⟩
      go_wp2_with fail
      go_ret3
      exact D.out
    | fault =>
      obtain rfl : e = _ := hA
      have hW := HI.out.done hq (by simp)
      have F := fault_ok hR3
      have U := used_ok hR3
      have D := Lib.hid (show WholeDid o w r R0 (.returned (.tuple #[_, .string ⟨R'.fault.toArray⟩, .int .i64 R'.used])) w3 from ⟨_, o3, by rw [hW], by rw [hW]; exact hL3, HS3.out⟩)
      clear hW hq hL3 hR3
      go_wp2_with fail
      refine F.mono ?_; rintro e w4 ⟨rfl, rfl⟩
      go_wp2_with fail
      refine U.mono ?_; rintro e w4 ⟨rfl, rfl⟩
      go_wp2_with fail
      go_ret3
      exact D.out
    | one ws =>
      obtain ⟨u, rfl, hne, hT⟩ := hA
      obtain ⟨ua, ucap, rfl, _⟩ := hT.slice
      have hlt := next_len hq
      have hT2 : Texts o3 w3 (reqRole r acc.length) (.slice ua ws.length ucap) ws := hT
      have hacc : acc.length ≤ 1099511627776 := by omega
      have HN := Lib.hid (HI.out.one hq)
      have HR := Lib.hid hR3
      have HL := Lib.hid hL3
      have HT := Lib.hid hT2
      have hrr : ∀ i, i ≤ acc.length → ¬ r ++ [2] <+: reqRole r i := fun i _ => by simp only [reqRole, List.append_assoc]; exact np_app (by simp)
      have hrrh := Lib.hid hrr
      clear hrr hq hR3 hL3 hT hT2 HI
      go_wp2_with (
        at_builtin
        refine wpList_pushL rfl _ _ rfl rfl HL.out HT.out rfl hacc hrrh.out ?_
        intro v' w4 o4 hrow hst
        have HW := Lib.hid hrow
        have HRR := Lib.hid (HR.out.keep hst (np_app (by simp)))
        have HSS := Lib.hid (HS3.out.trans (hst.wide (List.prefix_append _ _)))
        clear hrow hst HL)
      go_roundg R'.held.length
      case measure => rw [hgh.out]; exact hlt
      case rel => exact ⟨R', _, o4, rfl, HRR.out, HW.out, HN.out, by have := hlen2.out; simp; omega, HSS.out⟩
end Go.Proofs.Ytgdgnpjgemcjgaa
