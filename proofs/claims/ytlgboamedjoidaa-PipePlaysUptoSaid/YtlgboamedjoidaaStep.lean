import Derived.Test.YtlgboamedjoidaaLook
import Derived.Deep.RegionWith
namespace Go.Proofs.Ytlgboamedjoidaa
open Go Go.RowKit
theorem accL_done {n : NI} (op : OpM) (h : AccL n.conns n.next) (hn : n.next ≤ n.conns.length) : AccL (doneM n op).1.conns (doneM n op).1.next := by
  intro j c hc
  unfold doneM at hc ⊢
  by_cases h0 : op.kind = 0
  · rw [if_pos h0] at hc ⊢
    split at hc
    · rw [if_pos (by assumption)]
      dsimp only at hc ⊢
      rcases Nat.lt_or_ge j n.conns.length with hj | hj
      · rw [List.getElem?_append_left hj] at hc; exact h j c hc
      · have : j = n.conns.length := by have := (List.getElem?_eq_some_iff.1 hc).1; simp at this; omega
        subst this
        simp at hc; subst hc
        simp [freshC]; omega
    · rw [if_neg (by assumption)]; exact h j c hc
  rw [if_neg h0] at hc ⊢
  by_cases h5 : op.kind = 5
  · rw [if_pos h5] at hc ⊢
    cases hx : n.conns[n.next]? with
    | none => rw [hx] at hc; exact h j c hc
    | some x =>
      rw [hx] at hc
      simp only [NI.put, List.getElem?_set] at hc
      by_cases hj : n.next = j
      · subst hj
        rw [if_pos rfl] at hc
        split at hc
        · cases hc; simp [CI.accept_]
        · cases hc
      · rw [if_neg hj] at hc
        have := h j c hc
        rw [this]
        dsimp only
        rw [Bool.eq_iff_iff]; simp; omega
  rw [if_neg h5] at hc ⊢
  cases hx : n.at op.conn with
  | none => rw [hx] at hc; exact h j c hc
  | some x =>
    rw [hx] at hc
    simp only [NI.put, List.getElem?_set] at hc
    have hacc : (doneC n.win x op).1.acc = x.acc := by
      unfold doneC
      repeat' split
      all_goals rfl
    by_cases hj : op.conn.toNat = j
    · subst hj
      rw [if_pos rfl] at hc
      split at hc
      · cases hc
        rw [hacc]
        refine h _ x ?_
        unfold NI.at at hx; split at hx; cases hx; exact hx
      · cases hc
    · rw [if_neg hj] at hc; exact h j c hc

section
variable {W w w1 w2 w3 : World} {o o1 o2 o3 : Roles} {p q T : Nat} {ps ps' : List Nat} {n : NI}
theorem Pair.alloc (h : Pair W o w p q ps n T) (x : Obj) (r : List Nat) : Pair W (o.put w.heap.size r) (w.alloc x) p q ps n T :=
  ⟨h.base.alloc x r, h.net.alloc x r, h.ref.alloc x r, h.acc, h.good⟩
theorem Pair.nextle (h : Pair W o w p q ps n T) : n.next ≤ n.conns.length := by obtain ⟨_, h⟩ := h.net; rw [← h.len]; exact h.nextle
/-- Both have done it. -/
theorem Pair.next (h : Pair W o1 w1 p q ps n T) (op : OpM) {n' : NI} (hn : n' = (doneM n op).1) (hN : Net o2 w2 [0] p ps' n') (s1 : Stp [0] o1 w1 o2 w2) (hR : Ref o3 w3 [1] q n.win n'.conns) (s2 : Stp [1] o2 w2 o3 w3) :
    Pair W o3 w3 p q ps' (doneM n op).1 (T + op.data.length) := by
  subst hn
  exact ⟨(h.base.step s1).step s2, hN.keep s2 (Apart.head (by decide) [] []), by rw [doneM_win]; exact hR, accL_done op h.acc h.nextle, doneM_good op h.good⟩
theorem Pair.ref2 (h : Pair W o1 w1 p q ps n T) (s1 : Stp [0] o1 w1 o2 w2) : Ref o2 w2 [1] q n.win n.conns := h.ref.keep s1 (Apart.head (by decide) [] [])

def StepP (W : World) (p q : Nat) (n : NI) (T : Nat) (e : Ending) (w' : World) : Prop := e = .returned (.bool true) ∧ ∃ o' ps', Pair W o' w' p q ps' n T

theorem ite_int {E : Int} : (if E = 0 then Value.int .i64 0 else .int .i64 E) = .int .i64 E := by split <;> simp_all
theorem doneM_in {n : NI} (op : OpM) {i : Nat} {x : CI} (hc : op.conn = i) (hx : n.conns[i]? = some x) (h0 : op.kind ≠ 0) (h5 : op.kind ≠ 5) : (doneM n op).1 = n.put i (doneC n.win x op).1 := by
  have hat : n.at op.conn = some x := by unfold NI.at; rw [if_neg (by omega), hc]; exact hx
  unfold doneM
  rw [if_neg h0, if_neg h5, hat, hc]
  rfl
theorem doneM_out {n : NI} (op : OpM) (hc : outL n.conns op.conn) (h0 : op.kind ≠ 0) (h5 : op.kind ≠ 5) : (doneM n op).1 = n := by
  have hat : n.at op.conn = none := by
    unfold NI.at
    rcases hc with hc | hc
    · rw [if_pos hc]
    · rw [if_neg (by omega)]; exact List.getElem?_eq_none (by omega)
  unfold doneM
  rw [if_neg h0, if_neg h5, hat]

set_option maxRecDepth 100000 in
set_option maxHeartbeats 1000000 in
theorem step2_any (h : Pair W o w p q ps n T) (op : OpM) (hk : op.kind = 2) (E : Int) (n' : NI) (hn : n' = (doneM n op).1)
    (HA : Calls Try.prog 27 #[ptr p, .int .i64 op.conn] (w.alloc (opC op)) (Did (o.put w.heap.size [9]) (w.alloc (opC op)) [0] p ps n' (.int .i64 E)))
    (HB : ∀ o2 w2, Ref o2 w2 [1] q n.win n.conns → Calls Try.prog 28 #[ptr q, .int .i64 op.conn] w2 (RDid o2 w2 [1] q n.win n'.conns (.int .i64 E))) :
    Calls Try.prog 12 #[ptr p, ptr q, opV op] w (StepP W p q (doneM n op).1 (T + op.data.length)) := by
  have hP := h.alloc (opC op) [9]
  have HF : ∀ o2 w2 o3 w3, Net o2 w2 [0] p ps n' → Stp [0] (o.put w.heap.size [9]) (w.alloc (opC op)) o2 w2 → Ref o3 w3 [1] q n.win n'.conns → Stp [1] o2 w2 o3 w3 → StepP W p q (doneM n op).1 (T + op.data.length) (.returned (.bool true)) w3 :=
    fun o2 w2 o3 w3 a b c d => ⟨rfl, o3, ps, hP.next op hn a b c d⟩
  have HG := fun o2 w2 (st : Stp [0] (o.put w.heap.size [9]) (w.alloc (opC op)) o2 w2) => HB o2 w2 (hP.ref2 st)
  have HF := Lib.hid HF
  have HG := Lib.hid HG
  clear h hP HB hn
  generalize (doneM n op).1 = N2 at *
  generalize T + op.data.length = T2 at *
  obtain ⟨kind, conn, nn, data⟩ := op
  subst hk
  unfold ptr opV opC at *
  dsimp only at *
  go_enter Try.func12, Try.ntmps12
  go_wp2_with fail
  refine HA.mono ?_; rintro e w2 ⟨rfl, o2, hN, s1⟩
  have HG2 := HG.out o2 w2 s1
  have HF2 := Lib.hid (HF.out o2 w2)
  have Hs1 := Lib.hid s1
  have HN := Lib.hid hN
  clear HA HF HG s1 hN
  go_wp2_with fail
  refine HG2.mono ?_; rintro e w3 ⟨rfl, o3, hR, s2⟩
  have HE := Lib.hid (HF2.out o3 w3 HN.out Hs1.out hR s2)
  clear HG2 hR s2 HF2
  go_wp2_with fail
  go_ret
  exact HE.out
theorem step2_ok (h : Pair W o w p q ps n T) (op : OpM) (hk : op.kind = 2) : Calls Try.prog 12 #[ptr p, ptr q, opV op] w (StepP W p q (doneM n op).1 (T + op.data.length)) := by
  have hP := h.alloc (opC op) [9]
  by_cases hc : outR ps op.conn
  · have hc2 : outL n.conns op.conn := by unfold outR at hc; unfold outL; rw [← h.len]; exact hc
    exact step2_any h op hk 60 n (doneM_out op hc2 (by omega) (by omega)).symm (End_out hP.net op.conn hc) (fun o2 w2 hR => REnd_out hR op.conn hc2)
  · obtain ⟨i, hi⟩ : ∃ i : Nat, op.conn = i := ⟨op.conn.toNat, by unfold outR at hc; omega⟩
    obtain ⟨b, x, hb, hx⟩ := h.net.at (i := i) (by unfold outR at hc; omega)
    have hd : (doneC n.win x op).1 = (if sendE x = 0 then x.end_ else x) := by unfold doneC; simp [hk]
    have HA := End_in hP.net hb hx
    have HB := fun o2 w2 (hR : Ref o2 w2 [1] q n.win n.conns) => REnd_in hR hx
    simp only [ite_int] at HA HB
    rw [← hi] at HA
    simp only [← hi] at HB
    exact step2_any h op hk (sendE x) (n.put i (if sendE x = 0 then x.end_ else x)) (by rw [doneM_in op hi hx (by omega) (by omega), hd]) HA HB

set_option maxRecDepth 100000 in
set_option maxHeartbeats 1000000 in
theorem step4_any (h : Pair W o w p q ps n T) (op : OpM) (hk : op.kind = 4) (E : Int) (n' : NI) (hn : n' = (doneM n op).1)
    (HA : Calls Try.prog 30 #[ptr p, .int .i64 op.conn] (w.alloc (opC op)) (Did (o.put w.heap.size [9]) (w.alloc (opC op)) [0] p ps n' (.int .i64 E)))
    (HB : ∀ o2 w2, Ref o2 w2 [1] q n.win n.conns → Calls Try.prog 31 #[ptr q, .int .i64 op.conn] w2 (RDid o2 w2 [1] q n.win n'.conns (.int .i64 E))) :
    Calls Try.prog 12 #[ptr p, ptr q, opV op] w (StepP W p q (doneM n op).1 (T + op.data.length)) := by
  have hP := h.alloc (opC op) [9]
  have HF : ∀ o2 w2 o3 w3, Net o2 w2 [0] p ps n' → Stp [0] (o.put w.heap.size [9]) (w.alloc (opC op)) o2 w2 → Ref o3 w3 [1] q n.win n'.conns → Stp [1] o2 w2 o3 w3 → StepP W p q (doneM n op).1 (T + op.data.length) (.returned (.bool true)) w3 :=
    fun o2 w2 o3 w3 a b c d => ⟨rfl, o3, ps, hP.next op hn a b c d⟩
  have HG := fun o2 w2 (st : Stp [0] (o.put w.heap.size [9]) (w.alloc (opC op)) o2 w2) => HB o2 w2 (hP.ref2 st)
  have HF := Lib.hid HF
  have HG := Lib.hid HG
  clear h hP HB hn
  generalize (doneM n op).1 = N2 at *
  generalize T + op.data.length = T2 at *
  obtain ⟨kind, conn, nn, data⟩ := op
  subst hk
  unfold ptr opV opC at *
  dsimp only at *
  go_enter Try.func12, Try.ntmps12
  go_wp2_with fail
  refine HA.mono ?_; rintro e w2 ⟨rfl, o2, hN, s1⟩
  have HG2 := HG.out o2 w2 s1
  have HF2 := Lib.hid (HF.out o2 w2)
  have Hs1 := Lib.hid s1
  have HN := Lib.hid hN
  clear HA HF HG s1 hN
  go_wp2_with fail
  refine HG2.mono ?_; rintro e w3 ⟨rfl, o3, hR, s2⟩
  have HE := Lib.hid (HF2.out o3 w3 HN.out Hs1.out hR s2)
  clear HG2 hR s2 HF2
  go_wp2_with fail
  go_ret
  exact HE.out
theorem step4_ok (h : Pair W o w p q ps n T) (op : OpM) (hk : op.kind = 4) : Calls Try.prog 12 #[ptr p, ptr q, opV op] w (StepP W p q (doneM n op).1 (T + op.data.length)) := by
  have hP := h.alloc (opC op) [9]
  by_cases hc : outR ps op.conn
  · have hc2 : outL n.conns op.conn := by unfold outR at hc; unfold outL; rw [← h.len]; exact hc
    exact step4_any h op hk 60 n (doneM_out op hc2 (by omega) (by omega)).symm (Cut_out hP.net op.conn hc) (fun o2 w2 hR => RCut_out hR op.conn hc2)
  · obtain ⟨i, hi⟩ : ∃ i : Nat, op.conn = i := ⟨op.conn.toNat, by unfold outR at hc; omega⟩
    obtain ⟨b, x, hb, hx⟩ := h.net.at (i := i) (by unfold outR at hc; omega)
    have hd : (doneC n.win x op).1 = (if wholeE x = 0 then x.cut_ else x) := by unfold doneC; simp [hk]
    have HA := Cut_in hP.net hb hx
    have HB := fun o2 w2 (hR : Ref o2 w2 [1] q n.win n.conns) => RCut_in hR hx
    simp only [ite_int] at HA HB
    rw [← hi] at HA
    simp only [← hi] at HB
    exact step4_any h op hk (wholeE x) (n.put i (if wholeE x = 0 then x.cut_ else x)) (by rw [doneM_in op hi hx (by omega) (by omega), hd]) HA HB

set_option maxRecDepth 100000 in
set_option maxHeartbeats 1000000 in
theorem step8_any (h : Pair W o w p q ps n T) (op : OpM) (hk : op.kind = 8) (E : Int) (n' : NI) (hn : n' = (doneM n op).1)
    (HA : Calls Try.prog 35 #[ptr p, .int .i64 op.conn] (w.alloc (opC op)) (Did (o.put w.heap.size [9]) (w.alloc (opC op)) [0] p ps n' (.int .i64 E)))
    (HB : ∀ o2 w2, Ref o2 w2 [1] q n.win n.conns → Calls Try.prog 36 #[ptr q, .int .i64 op.conn] w2 (RDid o2 w2 [1] q n.win n'.conns (.int .i64 E))) :
    Calls Try.prog 12 #[ptr p, ptr q, opV op] w (StepP W p q (doneM n op).1 (T + op.data.length)) := by
  have hP := h.alloc (opC op) [9]
  have HF : ∀ o2 w2 o3 w3, Net o2 w2 [0] p ps n' → Stp [0] (o.put w.heap.size [9]) (w.alloc (opC op)) o2 w2 → Ref o3 w3 [1] q n.win n'.conns → Stp [1] o2 w2 o3 w3 → StepP W p q (doneM n op).1 (T + op.data.length) (.returned (.bool true)) w3 :=
    fun o2 w2 o3 w3 a b c d => ⟨rfl, o3, ps, hP.next op hn a b c d⟩
  have HG := fun o2 w2 (st : Stp [0] (o.put w.heap.size [9]) (w.alloc (opC op)) o2 w2) => HB o2 w2 (hP.ref2 st)
  have HF := Lib.hid HF
  have HG := Lib.hid HG
  clear h hP HB hn
  generalize (doneM n op).1 = N2 at *
  generalize T + op.data.length = T2 at *
  obtain ⟨kind, conn, nn, data⟩ := op
  subst hk
  unfold ptr opV opC at *
  dsimp only at *
  go_enter Try.func12, Try.ntmps12
  go_wp2_with fail
  refine HA.mono ?_; rintro e w2 ⟨rfl, o2, hN, s1⟩
  have HG2 := HG.out o2 w2 s1
  have HF2 := Lib.hid (HF.out o2 w2)
  have Hs1 := Lib.hid s1
  have HN := Lib.hid hN
  clear HA HF HG s1 hN
  go_wp2_with fail
  refine HG2.mono ?_; rintro e w3 ⟨rfl, o3, hR, s2⟩
  have HE := Lib.hid (HF2.out o3 w3 HN.out Hs1.out hR s2)
  clear HG2 hR s2 HF2
  go_wp2_with fail
  go_ret
  exact HE.out
theorem step8_ok (h : Pair W o w p q ps n T) (op : OpM) (hk : op.kind = 8) : Calls Try.prog 12 #[ptr p, ptr q, opV op] w (StepP W p q (doneM n op).1 (T + op.data.length)) := by
  have hP := h.alloc (opC op) [9]
  by_cases hc : outR ps op.conn
  · have hc2 : outL n.conns op.conn := by unfold outR at hc; unfold outL; rw [← h.len]; exact hc
    exact step8_any h op hk 60 n (doneM_out op hc2 (by omega) (by omega)).symm (Close_out hP.net op.conn hc) (fun o2 w2 hR => RClose_out hR op.conn hc2)
  · obtain ⟨i, hi⟩ : ∃ i : Nat, op.conn = i := ⟨op.conn.toNat, by unfold outR at hc; omega⟩
    obtain ⟨b, x, hb, hx⟩ := h.net.at (i := i) (by unfold outR at hc; omega)
    have hd : (doneC n.win x op).1 = (if servedE x = 0 then x.close_ else x) := by unfold doneC; simp [hk]
    have HA := Close_in hP.net hb hx
    have HB := fun o2 w2 (hR : Ref o2 w2 [1] q n.win n.conns) => RClose_in hR hx
    simp only [ite_int] at HA HB
    rw [← hi] at HA
    simp only [← hi] at HB
    exact step8_any h op hk (servedE x) (n.put i (if servedE x = 0 then x.close_ else x)) (by rw [doneM_in op hi hx (by omega) (by omega), hd]) HA HB
end
end Go.Proofs.Ytlgboamedjoidaa
