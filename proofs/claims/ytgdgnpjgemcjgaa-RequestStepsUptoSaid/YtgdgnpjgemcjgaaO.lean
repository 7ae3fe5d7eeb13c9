import Derived.Test.YtgdgnpjgemcjgaaN
import Derived.Defers
import Derived.Recover
namespace Go.Proofs.Ytgdgnpjgemcjgaa
open Go Go.RowKit
theorem lineR_len : ∀ (k : Nat) (s t r : List UInt8), lineR k s = .ok t r → t.length + 1 + r.length = s.length
  | _, [], _, _, h => by simp [lineR] at h
  | k, b :: s', t, r, h => by
    rw [lineR.eq_def] at h
    simp only at h
    split at h
    · cases h; simp; omega
    · split at h
      · cases h
      · rename_i k'
        cases hq : lineR k' s' with
        | more => rw [hq] at h; cases h
        | bad => rw [hq] at h; cases h
        | ok t' r' =>
          rw [hq] at h
          simp only [LR.cons, LR.ok.injEq] at h
          obtain ⟨rfl, rfl⟩ := h
          have := lineR_len k' s' _ _ hq
          simp; omega
theorem bulkR_len {l : Lim} {s a r : List UInt8} (h : bulkR l s = .ok a r) : a.length + r.length < s.length := by
  cases s with
  | nil => cases h
  | cons b s' =>
    rw [bulkR.eq_def] at h
    simp only at h
    split at h
    · cases h
    · cases hq : lineR l.line (b :: s') with
      | more => rw [hq] at h; cases h
      | bad => rw [hq] at h; cases h
      | ok t q =>
        rw [hq] at h
        simp only at h
        have := lineR_len _ _ _ _ hq
        cases hn : countR l.bulk (trim13 t).tail with
        | none => rw [hn] at h; cases h
        | some n =>
          rw [hn] at h
          simp only at h
          split at h
          · cases h
          · split at h
            · cases h
            · split at h
              · cases h
              · split at h
                · cases h
                · cases h
                  simp only [List.length_take, List.length_drop]
                  omega
theorem bulksR_len {l : Lim} : ∀ (n : Nat) {s r : List UInt8} {ws : List (List UInt8)}, bulksR l n s = .ok ws r → ws.length = n ∧ r.length ≤ s.length
  | 0, s, r, ws, h => by cases h; exact ⟨rfl, Nat.le_refl _⟩
  | n + 1, s, r, ws, h => by
    rw [bulksR] at h
    cases hq : bulkR l s with
    | more => rw [hq] at h; cases h
    | fault w => rw [hq] at h; cases h
    | ok a q =>
      rw [hq] at h
      simp only at h
      have h1 := bulkR_len hq
      cases hp : bulksR l n q with
      | more => rw [hp] at h; cases h
      | fault w => rw [hp] at h; cases h
      | ok ws' r' =>
        rw [hp] at h
        cases h
        have := bulksR_len n hp
        simp only [List.length_cons]
        omega
theorem thingR_len {l : Lim} {s r : List UInt8} {ws : List (List UInt8)} (h : thingR l s = .ok ws r) : r.length < s.length := by
  rw [thingR] at h
  cases hq : lineR l.line s with
  | more => rw [hq] at h; cases h
  | bad => rw [hq] at h; cases h
  | ok t q =>
    rw [hq] at h
    have h1 := lineR_len _ _ _ _ hq
    simp only at h
    split at h
    · cases hn : countR l.args (trim13 t).tail with
      | none => rw [hn] at h; cases h
      | some n =>
        rw [hn] at h
        have := (bulksR_len n h).2
        omega
    · cases hn : splitL (trim13 t) with
      | none => rw [hn] at h; cases h
      | some n =>
        rw [hn] at h
        simp only at h
        split at h
        · cases h
        · split at h
          · cases h
          · cases h; omega
theorem reqF_fuel (l : Lim) (n : Nat) : ∀ (m : Nat) (s : List UInt8), s.length < n → s.length < m → reqF l n s = reqF l m s := by
  induction n with
  | zero => intro m s h; omega
  | succ n ih =>
    intro m s h hm
    cases m with
    | zero => omega
    | succ m =>
      rw [reqF, reqF]
      cases hq : thingR l s with
      | more => rfl
      | fault w => rfl
      | ok ws r =>
        have := thingR_len hq
        cases ws with
        | nil => exact ih m r (by omega) (by omega)
        | cons a ws => rfl
theorem reqR_go {l : Lim} {s r : List UInt8} (h : thingR l s = .ok [] r) : reqR l s = reqR l r := by
  have := thingR_len h
  rw [reqR, reqR, reqF, h]
  exact reqF_fuel l _ _ r (by omega) (by omega)
theorem reqR_one {l : Lim} {s r a : List UInt8} {ws : List (List UInt8)} (h : thingR l s = .ok (a :: ws) r) : reqR l s = (.ok (a :: ws) r, r) := by
  rw [reqR, reqF, h]
theorem reqR_stop {l : Lim} {s word : List UInt8} (h : (thingR l s).stop = some word) : (reqR l s).1.stop = some word ∧ (reqR l s).2 = s := by
  rw [reqR, reqF]
  cases hq : thingR l s with
  | more => rw [hq] at h; exact ⟨h, rfl⟩
  | fault w => rw [hq] at h; exact ⟨h, rfl⟩
  | ok ws r => rw [hq] at h; cases h

/-! ### The deferred closure -/
set_option maxRecDepth 10000 in
theorem catch_stop (a c : Nat) (x y : Value) (word : List UInt8) (w : World) (ha : w.cell? ⟨a, 0, none⟩ = some x) (hfa : w.frozen? ⟨a, 0, none⟩ = false) (hb : w.cell? ⟨c, 0, none⟩ = some y) (hfb : w.frozen? ⟨c, 0, none⟩ = false) (hac : ¬ a = c) :
    CallsD Try.prog 48 #[.pointer (some ⟨a, 0, none⟩), .pointer (some ⟨c, 0, none⟩)] (.panicking [{ v := stopV word, recovered := false }]) w fun e u' w' =>
      e = .returned (.tuple #[]) ∧ u' = .panicking [{ v := stopV word, recovered := true }] ∧ w' = ((w.setCell ⟨a, 0, none⟩ (.slice none 0 0)).setCell ⟨c, 0, none⟩ (.pointer (some ⟨w.heap.size, 0, none⟩))).alloc (.cells #[.string ⟨word.toArray⟩] 82) := by
  refine callsD_of_wpS Try.func48 rfl fun c₀ cs hu => ?_
  apply wpS_seq
  apply wpS_region
  simp [wpOpsS, go_sem, recoverD, hu, Try.ntmps48, Exit.thenS]
  refine wpS_of_wp ?_
  change Code.wp _ _ _ { tmps := #[.pointer (some ⟨a, 0, none⟩), .pointer (some ⟨c, 0, none⟩), stopV word, undef, undef, stopV word, undef, undef, undef, undef, undef, undef, undef, undef, undef, undef], defers := [] } _
  unfold stopV
  have hta : ∀ w, (Instr.typeAssert (.iface 82 (.agg #[.string ⟨word.toArray⟩])) 20 82 true).run Try.prog w = .ok (.tuple #[.agg #[.string ⟨word.toArray⟩], .bool true]) w := fun _ => by kernel_rfl
  have hla : a < w.heap.size := World.block_lt_of_cell? w ⟨a, 0, none⟩ ha
  have hlc : c < w.heap.size := World.block_lt_of_cell? w ⟨c, 0, none⟩ hb
  have hB := (Below.refl w.heap.size w).alloc (Nat.le_refl _) (.cells #[.string ⟨word.toArray⟩] 82)
  have A1 := (hB.cell (p := ⟨a, 0, none⟩) hla).trans ha
  have A2 := (hB.cell (p := ⟨c, 0, none⟩) hlc).trans hb
  have A3 := (hB.frozen (p := ⟨a, 0, none⟩) hla).trans hfa
  have A4 := (hB.frozen (p := ⟨c, 0, none⟩) hlc).trans hfb
  have hca : ¬ c = a := fun e => hac e.symm
  clear hB
  go_wp2_with fail
  cases c₀
  simp_all [bodyPostS, results, Try.results48]
theorem catch_idle (a c : Nat) (w : World) :
    CallsD Try.prog 48 #[.pointer (some ⟨a, 0, none⟩), .pointer (some ⟨c, 0, none⟩)] .returning w fun e u' w' => e = .returned (.tuple #[]) ∧ u' = .returning ∧ w' = w := by
  refine callsD_of_wpS Try.func48 rfl fun c₀ cs hu => ?_
  apply wpS_seq
  apply wpS_region
  simp [wpOpsS, go_sem, recoverD, hu, Try.ntmps48, Exit.thenS]
  refine wpS_of_wp ?_
  change Code.wp _ _ _ { tmps := #[.pointer (some ⟨a, 0, none⟩), .pointer (some ⟨c, 0, none⟩), .nilIface, undef, undef, .nilIface, undef, undef, undef, undef, undef, undef, undef, undef, undef, undef], defers := [] } _
  go_wp2
  cases c₀
  simp_all [bodyPostS, results, Try.results48]

/-! ### request -/
def ReqDid (o : Roles) (w : World) (r : List Nat) (s : List UInt8) (at_ : Nat) (l : Lim) (e : Ending) (w' : World) : Prop :=
  (∃ word n c o', e = .returned (.tuple #[.slice none 0 0, .int .i64 (n : Nat), .pointer (some ⟨c, 0, none⟩)]) ∧ (reqR l (s.drop at_)).1.stop = some word ∧ (reqR l (s.drop at_)).2 = s.drop n ∧ at_ ≤ n ∧ n ≤ s.length ∧ Blk o' w' (r ++ [4]) c #[.string ⟨word.toArray⟩] 82 ∧ Stp r o w o' w') ∨
  ∃ v ws n o', e = .returned (.tuple #[v, .int .i64 (n : Nat), .pointer none]) ∧ reqR l (s.drop at_) = (.ok ws (s.drop n), s.drop n) ∧ ws ≠ [] ∧ at_ < n ∧ n ≤ s.length ∧ Texts o' w' (r ++ [0] ++ [1] ++ [0]) v ws ∧ Stp r o w o' w'
def ReqRel (o : Roles) (w : World) (r : List Nat) (b : Nat) (s : List UInt8) (at_ : Nat) (l : Lim) (u : Value) (wr : World) : Prop :=
  ∃ (j : Nat) (av : Value) (o' : Roles), u = .int .i64 (j : Int) ∧ at_ ≤ j ∧ j ≤ s.length ∧ reqR l (s.drop at_) = reqR l (s.drop j) ∧ Scan o' wr (r ++ [0] ++ [0]) b s j l ∧ Blk o' wr (r ++ [2]) w.heap.size #[av] 33 ∧ Blk o' wr (r ++ [3]) (w.heap.size + 1) #[.pointer none] 78 ∧ Stp r o w o' wr

set_option maxRecDepth 10000 in
set_option maxHeartbeats 2000000 in
theorem request_ok {o : Roles} {w : World} {r : List Nat} {b at_ : Nat} {s : List UInt8} {l : Lim} (h : Scan o w (r ++ [0] ++ [0]) b s at_ l) (ha : at_ ≤ s.length) (hs : s.length ≤ 1099511627776) (hl : LimOk l) :
    Calls Try.prog 42 #[.pointer (some ⟨b, 0, none⟩)] w (ReqDid o w r s at_ l) := by
  have hsz : (⟨s.toArray⟩ : ByteArray).size = s.length := by simp [ByteArray.size]
  have hmf : ∀ (fn : Fn) (first cap : Array Value) (w : World), (Instr.makeFunc fn first cap).run Try.prog w = .ok (.func fn first cap) w := fun _ _ _ _ => rfl
  have hc := h.cell
  unfold scanC at hc
  have hlt := h.lt
  have hb := Lib.hid h
  have hlb := Lib.hid hl
  have hat : ReqRel o w r b s at_ l (.int .i64 at_) ((w.alloc (.cells #[.slice none 0 0] 33)).alloc (.cells #[.pointer none] 78)) := by
    have h1 := h.alloc (.cells #[.slice none 0 0] 33) w.heap.size (r ++ [2]) rfl
    have h2 := h1.alloc (.cells #[.pointer none] 78) (w.heap.size + 1) (r ++ [3]) (by simp)
    exact ⟨at_, _, _, rfl, Nat.le_refl _, ha, rfl, h2, (Blk.new o w (r ++ [2]) _ 33 _ rfl).alloc _ _ _ (by simp), Blk.new _ _ _ _ 78 _ (by simp), ((Stp.refl r o w).alloc _ _ rfl).alloc _ _ (by simp)⟩
  clear h hl
  go_enter_defers Try.func42, Try.ntmps42
  go_wp2_with fail
  go_loopw [3] (fun u wr => ReqRel o w r b s at_ l u wr) (fun u _ => s.length - (intOf u).toNat)
  case atStart => exact hat
  case round =>
    obtain ⟨j, av, o', rfl, haj, hj, hR, hS, hA, hB, hst⟩ := hrel
    clear hat hc hlt
    have T := thing_ok hS hj hs hlb.out
    have HR := Lib.hid hR
    have HA := Lib.hid hA
    have HB := Lib.hid hB
    have HST := Lib.hid hst
    clear hS hR hA hB hst
    go_wp2_with fail
    refine T.mono ?_; rintro e w2 (⟨word, o2, rfl, hstop, st2⟩ | ⟨v, ws, n, o2, rfl, hok, hjn, hn, hT, hS2, st2⟩)
    · have HA2 := HA.out.keep st2 (np_app (by simp))
      have HB2 := HB.out.keep st2 (np_app (by simp))
      have hAB : ¬ w.heap.size = w.heap.size + 1 := by omega
      have h1 := (HA2.setCell 0 (.slice none 0 0)).setOther ⟨w.heap.size + 1, 0, none⟩ (.pointer (some ⟨w2.heap.size, 0, none⟩)) hAB
      have h2 := (HB2.setOther ⟨w.heap.size, 0, none⟩ (.slice none 0 0) (fun e => hAB e.symm)).setCell 0 (.pointer (some ⟨w2.heap.size, 0, none⟩))
      have hsize : w2.heap.size = ((w2.setCell ⟨w.heap.size, 0, none⟩ (.slice none 0 0)).setCell ⟨w.heap.size + 1, 0, none⟩ (.pointer (some ⟨w2.heap.size, 0, none⟩))).heap.size := by simp
      have k1 := (h1.alloc (.cells #[.string ⟨word.toArray⟩] 82) w2.heap.size (r ++ [4]) hsize).cell 0
      have k2 := (h2.alloc (.cells #[.string ⟨word.toArray⟩] 82) w2.heap.size (r ++ [4]) hsize).cell 0
      have k3 := Blk.new o2 _ (r ++ [4]) #[.string ⟨word.toArray⟩] 82 _ hsize
      have hS := ((((HST.out.trans (st2.wide (List.prefix_append _ _))).setCell (a := ⟨w.heap.size, 0, none⟩) (by rw [show o2 w.heap.size = r ++ [2] from HA2.role]; exact List.prefix_append _ _) (.slice none 0 0)).setCell (a := ⟨w.heap.size + 1, 0, none⟩) (by rw [show o2 (w.heap.size + 1) = r ++ [3] from HB2.role]; exact List.prefix_append _ _) (.pointer (some ⟨w2.heap.size, 0, none⟩)))).alloc (r' := r ++ [4]) (.cells #[.string ⟨word.toArray⟩] 82) w2.heap.size hsize
      have hq := reqR_stop hstop
      rw [← HR.out] at hq
      change Leaves Try.prog Try.f42 _ _ _ _ _
      refine leaves_cons (f := 48) (args := #[.pointer (some ⟨w.heap.size, 0, none⟩), .pointer (some ⟨w.heap.size + 1, 0, none⟩)]) (by simp) (by simp [go_sem]) ?_
      refine (catch_stop w.heap.size (w.heap.size + 1) _ _ word _ (HA2.cell 0) (HA2.free 0) (HB2.cell 0) (HB2.free 0) hAB).mono ?_
      rintro e u' w3 ⟨rfl, rfl, rfl⟩
      refine ⟨.tuple #[.slice none 0 0, .int .i64 (j : Int), .pointer (some ⟨w2.heap.size, 0, none⟩)], ?_, .inl ⟨word, j, _, _, rfl, hq.1, hq.2, haj, hj, k3, hS⟩⟩
      simp at k1 k2
      simp [results, Try.results42, go_sem, k1, k2]
    · obtain ⟨va, cap, rfl, hcap, hcap2, hcells⟩ := texts_cells hT
      have HA2 := HA.out.keep st2 (np_app (by simp))
      have HB2 := HB.out.keep st2 (np_app (by simp))
      have hAB : ¬ w.heap.size = w.heap.size + 1 := by omega
      have hbA : ¬ b = w.heap.size := hS2.ne HA2 (by rw [List.append_assoc]; exact ne_app (by simp))
      have hA3 := HA2.setCell 0 (.slice va ws.length cap)
      have hB3 := HB2.setOther ⟨w.heap.size, 0, none⟩ (.slice va ws.length cap) (fun e => hAB e.symm)
      have hS3 := hS2.setOther ⟨w.heap.size, 0, none⟩ (.slice va ws.length cap) hbA
      have hT3 := hT.setCell ⟨w.heap.size, 0, none⟩ (.slice va ws.length cap) (by rw [show o2 w.heap.size = r ++ [2] from HA2.role, List.append_assoc, List.append_assoc]; exact ne_app (by simp))
      have hst3 := (HST.out.trans (st2.wide (List.prefix_append _ _))).setCell (a := ⟨w.heap.size, 0, none⟩) (by rw [show o2 w.heap.size = r ++ [2] from HA2.role]; exact List.prefix_append _ _) (.slice va ws.length cap)
      have ca := HA2.cell 0
      have fa := HA2.free 0
      have cb := HB2.cell 0
      have fb := HB2.free 0
      have cs := hS2.cell
      unfold scanC at cs
      have hHA3 := Lib.hid hA3
      have hHB3 := Lib.hid hB3
      have hHS3 := Lib.hid hS3
      have hHT3 := Lib.hid hT3
      have hHst3 := Lib.hid hst3
      have hOK := Lib.hid hok
      clear hA3 hB3 hS3 hT3 hst3 hT hS2 st2 hok HA2 HB2 hcells T HST
      by_cases hws : ws = []
      · subst hws
        have HN := Lib.hid (HR.out.trans (reqR_go hOK.out))
        go_wp2_with fail
        go_roundw
        case rel => exact ⟨n, _, o2, rfl, by omega, hn, HN.out, hHS3.out, hHA3.out, hHB3.out, hHst3.out⟩
        case measure => simp [intOf]; omega
      · have hlen : 0 < ws.length := List.length_pos_iff.2 hws
        have hR1 : reqR l (s.drop at_) = (.ok ws (s.drop n), s.drop n) := by
          obtain ⟨a, ws', rfl⟩ := List.exists_cons_of_ne_nil hws
          rw [HR.out]; exact reqR_one hOK.out
        have h1 := (hHA3.out.setCell 0 (.slice va ws.length cap)).setOther ⟨w.heap.size + 1, 0, none⟩ (.pointer none) hAB
        have h2 := (hHB3.out.setOther ⟨w.heap.size, 0, none⟩ (.slice va ws.length cap) (fun e => hAB e.symm)).setCell 0 (.pointer none)
        have k1 := h1.cell 0
        have k2 := h2.cell 0
        have r1 := hHA3.out.role
        have r2 := hHB3.out.role
        have hT4 := (hHT3.out.setCell ⟨w.heap.size, 0, none⟩ (.slice va ws.length cap) (by rw [r1, List.append_assoc, List.append_assoc]; exact ne_app (by simp))).setCell ⟨w.heap.size + 1, 0, none⟩ (.pointer none) (by rw [r2, List.append_assoc, List.append_assoc]; exact ne_app (by simp))
        have hS4 := (hHst3.out.setCell (a := ⟨w.heap.size, 0, none⟩) (by rw [r1]; exact List.prefix_append _ _) (.slice va ws.length cap)).setCell (a := ⟨w.heap.size + 1, 0, none⟩) (by rw [r2]; exact List.prefix_append _ _) (.pointer none)
        have D := Lib.hid (show ReqDid o w r s at_ l _ _ from .inr ⟨_, ws, n, o2, rfl, hR1, hws, by omega, hn, hT4, hS4⟩)
        have k1h := Lib.hid k1
        have k2h := Lib.hid k2
        clear hR1 h1 h2 k1 k2 r1 r2 hT4 hS4
        go_wp2_with fail
        change Leaves Try.prog Try.f42 _ _ _ _ _
        refine leaves_cons (f := 48) (args := #[.pointer (some ⟨w.heap.size, 0, none⟩), .pointer (some ⟨w.heap.size + 1, 0, none⟩)]) (by simp) (by simp [go_sem]) ?_
        refine (catch_idle w.heap.size (w.heap.size + 1) _).mono ?_
        rintro e u' w3 ⟨rfl, rfl, rfl⟩
        refine ⟨.tuple #[.slice va ws.length cap, .int .i64 (n : Int), .pointer none], ?_, D.out⟩
        have k1 := k1h.out
        have k2 := k2h.out
        simp at k1 k2
        simp [results, Try.results42, go_sem, k1, k2]
end Go.Proofs.Ytgdgnpjgemcjgaa
