import Derived.Test.YtlgboamedjoidaaStep2
namespace Go.Proofs.Ytlgboamedjoidaa
open Go Go.RowKit
section
variable {W w w1 w2 w3 : World} {o o1 o2 o3 : Roles} {p q T : Nat} {ps ps' : List Nat} {n : NI}
set_option maxRecDepth 100000 in
set_option maxHeartbeats 1000000 in
theorem step1_any (h : Pair W o w p q ps n T) (op : OpM) (hk : op.kind = 1) (E : Int) (n' : NI) (hn : n' = (doneM n op).1)
    (HA : Calls Try.prog 21 #[ptr p, .int .i64 op.conn, .string ⟨op.data.toArray⟩] (w.alloc (opC op)).drew (Did (o.put w.heap.size [9]) (w.alloc (opC op)).drew [0] p ps n' (.int .i64 E)))
    (HB : ∀ o2 w2, Ref o2 w2 [1] q n.win n.conns → Calls Try.prog 26 #[ptr q, .int .i64 op.conn, .string ⟨op.data.toArray⟩] w2 (RDid o2 w2 [1] q n.win n'.conns (.int .i64 E))) :
    Calls Try.prog 12 #[ptr p, ptr q, opV op] w (StepP W p q (doneM n op).1 (T + op.data.length)) := by
  have hP := h.alloc (opC op) [9]
  have hBx := Blk.new o w [9] #[.int .i64 op.kind, .int .i64 op.conn, .int .i64 op.n, .string ⟨op.data.toArray⟩] 39 _ rfl
  have HF : ∀ o2 w2 o3 w3, Net o2 w2 [0] p ps n' → Stp [0] (o.put w.heap.size [9]) (w.alloc (opC op)).drew o2 w2 → Ref o3 w3 [1] q n.win n'.conns → Stp [1] o2 w2 o3 w3 → StepP W p q (doneM n op).1 (T + op.data.length) (.returned (.bool true)) w3 :=
    fun o2 w2 o3 w3 a b c d => ⟨rfl, o3, ps, hP.next op hn a b.from1 c d⟩
  have HG := fun o2 w2 (st : Stp [0] (o.put w.heap.size [9]) (w.alloc (opC op)).drew o2 w2) => HB o2 w2 (hP.ref2 st.from1)
  have HX : ∀ o2 w2, Stp [0] (o.put w.heap.size [9]) (w.alloc (opC op)).drew o2 w2 → ∀ j, w2.cell? ⟨w.heap.size, j, none⟩ = #[.int .i64 op.kind, .int .i64 op.conn, .int .i64 op.n, .string ⟨op.data.toArray⟩][j]? := fun o2 w2 st => (hBx.keep st.from1 (by simp)).cell
  have HF := Lib.hid HF
  have HG := Lib.hid HG
  have HX := Lib.hid HX
  clear h hP HB hn hBx
  generalize (doneM n op).1 = N2 at *
  generalize T + op.data.length = T2 at *
  obtain ⟨kind, conn, nn, data⟩ := op
  subst hk
  unfold ptr opV opC at *
  dsimp only at *
  go_enter Try.func12, Try.ntmps12
  go_wp2_with fail
  go_region_with (first
    | (go_at_call 21
       refine HA.mono ?_
       rintro e w2 ⟨rfl, o2, hN, s1⟩
       have hx := HX.out o2 w2 s1
       have HG2 := HG.out o2 w2 s1
       have HF2 := Lib.hid (HF.out o2 w2)
       have Hs1 := Lib.hid s1
       have HN := Lib.hid hN
       clear HA HF HG s1 hN HX)
    | (go_at_call 26
       refine HG2.mono ?_
       rintro e w3 ⟨rfl, o3, hR, s2⟩
       have HE := Lib.hid (HF2.out o3 w3 HN.out Hs1.out hR s2)
       clear HG2 hR s2 HF2))
  all_goals
    go_wp2_with fail
    go_ret
    exact HE.out
theorem Did.toN {o : Roles} {w w' : World} {r : List Nat} {v : Value} {e : Ending} (h : Did o w.drew r p ps n v e w') : Did o w r p ps n v e w' := ⟨h.1, let ⟨_, o', hN, st⟩ := h; ⟨o', hN, st.from1⟩⟩
theorem step1_ok (h : Pair W o w p q ps n T) (op : OpM) (hk : op.kind = 1) (hT : T + op.data.length ≤ 1048576) : Calls Try.prog 12 #[ptr p, ptr q, opV op] w (StepP W p q (doneM n op).1 (T + op.data.length)) := by
  have hP := h.alloc (opC op) [9]
  have hPN : Net (o.put w.heap.size [9]) (w.alloc (opC op)).drew [0] p ps n := hP.net.drewN 1
  by_cases hc : outR ps op.conn
  · have hc2 : outL n.conns op.conn := by unfold outR at hc; unfold outL; rw [← h.len]; exact hc
    exact step1_any h op hk 60 n (doneM_out op hc2 (by omega) (by omega)).symm (Send_out hPN op.conn hc _) (fun o2 w2 hR => RSend_out hR op.conn hc2 _)
  · obtain ⟨i, hi⟩ : ∃ i : Nat, op.conn = i := ⟨op.conn.toNat, by unfold outR at hc; omega⟩
    obtain ⟨b, x, hb, hx⟩ := h.net.at (i := i) (by unfold outR at hc; omega)
    have hd : (doneC n.win x op).1 = (if sendE x = 0 then x.put_ op.data else x) := by unfold doneC; simp [hk]
    have hg := h.good x (List.mem_of_getElem? hx)
    have HA := Send_in hPN hb hx op.data (by have := hg.1; omega)
    have HB := fun o2 w2 (hR : Ref o2 w2 [1] q n.win n.conns) => RSend_in hR hx op.data (by have := hg.1; omega)
    simp only [ite_int] at HB
    rw [← hi] at HA
    simp only [← hi] at HB
    exact step1_any h op hk (sendE x) (n.put i (if sendE x = 0 then x.put_ op.data else x)) (by rw [doneM_in op hi hx (by omega) (by omega), hd]) HA HB

theorem step0_ok (h : Pair W o w p q ps n T) (op : OpM) (hk : op.kind = 0) : Calls Try.prog 12 #[ptr p, ptr q, opV op] w (StepP W p q (doneM n op).1 (T + op.data.length)) := by
  have hP := h.alloc (opC op) [9]
  have hl := h.len
  have hf : ps.length ≤ 1024 := by obtain ⟨_, h⟩ := h.net; exact h.few
  by_cases hc : ps.length < 1024
  · have e : (doneM n op).1 = ⟨n.conns ++ [freshC], n.next, n.win⟩ := by unfold doneM; rw [if_pos hk, if_pos (by omega)]
    refine step0_any h op hk ps.length 0 _ e.symm ((Connect_ok hP.net hc).mono ?_) (fun o2 w2 hR => ?_)
    · rintro e w' ⟨b, o', rfl, hN, st⟩
      exact ⟨_, rfl, o', hN, st⟩
    · rw [hl]; exact RConnect_ok hR (by omega)
  · have e : (doneM n op).1 = n := by unfold doneM; rw [if_pos hk, if_neg (by omega)]
    refine step0_any h op hk 0 60 _ e.symm ((Connect_full hP.net (by omega)).mono ?_) (fun o2 w2 hR => (RConnect_full hR (by omega)).mono ?_)
    · rintro e w' ⟨rfl, rfl⟩
      exact ⟨_, Did.same hP.net _ 0⟩
    · rintro e w' ⟨rfl, rfl⟩
      exact RDid.same hR _ 0

theorem step5_ok (h : Pair W o w p q ps n T) (op : OpM) (hk : op.kind = 5) : Calls Try.prog 12 #[ptr p, ptr q, opV op] w (StepP W p q (doneM n op).1 (T + op.data.length)) := by
  have hP := h.alloc (opC op) [9]
  have hl := h.len
  have hf : n.next ≤ ps.length := by obtain ⟨_, h⟩ := h.net; exact h.nextle
  by_cases hc : n.next = ps.length
  · have e : (doneM n op).1 = n := by simp [doneM, hk, show n.conns[n.next]? = none by rw [hc, hl]; simp]
    refine step5_any h op hk 0 false _ e.symm ((Accept_none hP.net hc).mono ?_) (fun o2 w2 hR => (RAccept_none hR h.acc (by omega)).mono ?_)
    · rintro e w' ⟨rfl, k, rfl⟩
      exact ⟨_, Did.same hP.net _ k⟩
    · rintro e w' ⟨rfl, rfl⟩
      exact RDid.same hR _ 0
  · obtain ⟨b, x, hb, hx⟩ := h.net.at (i := n.next) (by omega)
    have e : (doneM n op).1 = { n.put n.next x.accept_ with next := n.next + 1 } := by simp [doneM, hk, hx]
    refine step5_any h op hk n.next true _ e.symm ((Accept_some hP.net hb hx).mono ?_) (fun o2 w2 hR => RAccept_some hR h.acc hx)
    · intro e w' hD
      exact ⟨_, hD⟩

theorem step3_ok (h : Pair W o w p q ps n T) (op : OpM) (hk : op.kind = 3) (mw : inW op.n) : Calls Try.prog 12 #[ptr p, ptr q, opV op] w (StepP W p q (doneM n op).1 (T + op.data.length)) := by
  have hP := h.alloc (opC op) [9]
  by_cases hc : outR ps op.conn
  · have hc2 : outL n.conns op.conn := by unfold outR at hc; unfold outL; rw [← h.len]; exact hc
    exact step3_any h op hk [] 60 n (doneM_out op hc2 (by omega) (by omega)).symm ((Take_out hP.net op.conn hc op.n).mono fun e w' hD => ⟨_, hD⟩) (fun o2 w2 hR => RTake_out hR op.conn hc2 op.n)
  · obtain ⟨i, hi⟩ : ∃ i : Nat, op.conn = i := ⟨op.conn.toNat, by unfold outR at hc; omega⟩
    obtain ⟨b, x, hb, hx⟩ := h.net.at (i := i) (by unfold outR at hc; omega)
    have hd : (doneC n.win x op).1 = (if wholeE x = 0 then x.tk_ (howMany op.n (x.dn.length - x.tk)) else x) := by unfold doneC; simp [hk]
    have hv : (if wholeE x = 0 then Value.tuple #[txt ((x.dn.drop x.tk).take (howMany op.n (x.dn.length - x.tk))), .int .i64 0] else .tuple #[txt [], .int .i64 (wholeE x)]) = .tuple #[txt (if wholeE x = 0 then (x.dn.drop x.tk).take (howMany op.n (x.dn.length - x.tk)) else []), .int .i64 (wholeE x)] := by split <;> simp_all
    have HA := Take_in hP.net hb hx op.n mw
    have HB := fun o2 w2 (hR : Ref o2 w2 [1] q n.win n.conns) => RTake_in hR hx op.n
    simp only [hv] at HA HB
    rw [← hi] at HA
    simp only [← hi] at HB
    exact step3_any h op hk _ (wholeE x) (n.put i (if wholeE x = 0 then x.tk_ (howMany op.n (x.dn.length - x.tk)) else x)) (by rw [doneM_in op hi hx (by omega) (by omega), hd]) (HA.mono fun e w' hD => ⟨_, hD⟩) HB

theorem step6_ok (h : Pair W o w p q ps n T) (op : OpM) (hk : op.kind = 6) (mw : inW op.n) : Calls Try.prog 12 #[ptr p, ptr q, opV op] w (StepP W p q (doneM n op).1 (T + op.data.length)) := by
  have hP := h.alloc (opC op) [9]
  by_cases hc : outR ps op.conn
  · have hc2 : outL n.conns op.conn := by unfold outR at hc; unfold outL; rw [← h.len]; exact hc
    exact step6_any h op hk [] false 60 n (doneM_out op hc2 (by omega) (by omega)).symm ((Read_out hP.net op.conn hc op.n).mono fun e w' hD => ⟨_, hD⟩) (fun o2 w2 hR => RRead_out hR op.conn hc2 op.n)
  · obtain ⟨i, hi⟩ : ∃ i : Nat, op.conn = i := ⟨op.conn.toNat, by unfold outR at hc; omega⟩
    obtain ⟨b, x, hb, hx⟩ := h.net.at (i := i) (by unfold outR at hc; omega)
    have hd : (doneC n.win x op).1 = (if servedE x = 0 then x.rd_ (howMany op.n (x.up.length - x.rd)) else x) := by unfold doneC; simp [hk]
    have hv : (if servedE x = 0 then Value.tuple #[txt ((x.up.drop x.rd).take (howMany op.n (x.up.length - x.rd))), .bool (x.en && x.rd + howMany op.n (x.up.length - x.rd) == x.up.length), .int .i64 0] else .tuple #[txt [], .bool false, .int .i64 (servedE x)])
      = .tuple #[txt (if servedE x = 0 then (x.up.drop x.rd).take (howMany op.n (x.up.length - x.rd)) else []), .bool (if servedE x = 0 then (x.en && x.rd + howMany op.n (x.up.length - x.rd) == x.up.length) else false), .int .i64 (servedE x)] := by split <;> simp_all
    have HA := Read_in hP.net hb hx op.n mw
    have HB := fun o2 w2 (hR : Ref o2 w2 [1] q n.win n.conns) => RRead_in hR hx op.n
    simp only [hv] at HA HB
    rw [← hi] at HA
    simp only [← hi] at HB
    exact step6_any h op hk _ _ (servedE x) (n.put i (if servedE x = 0 then x.rd_ (howMany op.n (x.up.length - x.rd)) else x)) (by rw [doneM_in op hi hx (by omega) (by omega), hd]) (HA.mono fun e w' hD => ⟨_, hD⟩) HB

theorem step7_ok (h : Pair W o w p q ps n T) (op : OpM) (hk : op.kind = 7) (hT : T + op.data.length ≤ 1048576) : Calls Try.prog 12 #[ptr p, ptr q, opV op] w (StepP W p q (doneM n op).1 (T + op.data.length)) := by
  have hP := h.alloc (opC op) [9]
  by_cases hc : outR ps op.conn
  · have hc2 : outL n.conns op.conn := by unfold outR at hc; unfold outL; rw [← h.len]; exact hc
    exact step7_any h op hk 0 60 n (doneM_out op hc2 (by omega) (by omega)).symm ((Write_out hP.net op.conn hc _).mono fun e w' hD => ⟨_, hD⟩) (fun o2 w2 hR => RWrite_out hR op.conn hc2 _)
  · obtain ⟨i, hi⟩ : ∃ i : Nat, op.conn = i := ⟨op.conn.toNat, by unfold outR at hc; omega⟩
    obtain ⟨b, x, hb, hx⟩ := h.net.at (i := i) (by unfold outR at hc; omega)
    have hd : (doneC n.win x op).1 = (if servedE x = 0 then x.wr_ (op.data.take (min op.data.length (n.win - (x.dn.length - x.tk)))) else x) := by unfold doneC; simp [hk]
    have hg := h.good x (List.mem_of_getElem? hx)
    have hv : (if servedE x = 0 then Value.tuple #[.int .i64 (min op.data.length (n.win - (x.dn.length - x.tk)) : Nat), .int .i64 0] else .tuple #[.int .i64 0, .int .i64 (servedE x)]) = .tuple #[.int .i64 (if servedE x = 0 then ((min op.data.length (n.win - (x.dn.length - x.tk)) : Nat) : Int) else 0), .int .i64 (servedE x)] := by split <;> simp_all
    have HA := Write_in hP.net hb hx op.data (by have := hg.2.1; omega) hg.2.2
    have HB := fun o2 w2 (hR : Ref o2 w2 [1] q n.win n.conns) => RWrite_in hR hx op.data (by have := hg.2.1; omega)
    simp only [hv] at HA HB
    rw [← hi] at HA
    simp only [← hi] at HB
    exact step7_any h op hk _ (servedE x) (n.put i (if servedE x = 0 then x.wr_ (op.data.take (min op.data.length (n.win - (x.dn.length - x.tk)))) else x)) (by rw [doneM_in op hi hx (by omega) (by omega), hd]) (HA.mono fun e w' hD => ⟨_, hD⟩) HB

set_option maxRecDepth 100000 in
set_option maxHeartbeats 1000000 in
theorem step9_ok (h : Pair W o w p q ps n T) (op : OpM) (hk : op.kind < 0 ∨ 8 < op.kind) : Calls Try.prog 12 #[ptr p, ptr q, opV op] w (StepP W p q (doneM n op).1 (T + op.data.length)) := by
  have hP := h.alloc (opC op) [9]
  have hM : (doneM n op).1 = n := by
    have hX : ∀ x, doneC n.win x op = (x, [], []) := fun x => by
      unfold doneC
      repeat rw [if_neg (by omega)]
    unfold doneM
    rw [if_neg (by omega), if_neg (by omega)]
    cases hat : n.at op.conn with
    | none => rfl
    | some x =>
      dsimp only
      rw [hX]
      refine NI.put_same n _ x ?_
      unfold NI.at at hat
      split at hat
      · cases hat
      · exact hat
  rw [hM]
  have H := look_ok hP op.conn
  have HF : ∀ w', Below (w.alloc (opC op)).heap.size (w.alloc (opC op)) w' → StepP W p q n (T + op.data.length) (.returned (.bool true)) w' := fun w' hb =>
    ⟨rfl, _, ps, ⟨hP.base.later hb, hP.net.below hb, hP.ref.below hb, hP.acc, fun x hx => (hP.good x hx).mono (by omega)⟩⟩
  have HF := Lib.hid HF
  clear h hP hM
  generalize T + op.data.length = T2 at *
  obtain ⟨kind, conn, nn, data⟩ := op
  dsimp only at hk
  have k0 : (kind == 0) = false := by simp; omega
  have k1 : (kind == 1) = false := by simp; omega
  have k2 : (kind == 2) = false := by simp; omega
  have k3 : (kind == 3) = false := by simp; omega
  have k4 : (kind == 4) = false := by simp; omega
  have k5 : (kind == 5) = false := by simp; omega
  have k6 : (kind == 6) = false := by simp; omega
  have k7 : (kind == 7) = false := by simp; omega
  have k8 : (kind == 8) = false := by simp; omega
  clear hk
  unfold ptr opV opC at *
  dsimp only at *
  go_enter Try.func12, Try.ntmps12
  go_wp2_with fail
  refine H.mono ?_; rintro e w2 ⟨rfl, hb⟩
  have HE := Lib.hid (HF.out w2 hb)
  clear H hb HF
  go_wp2_with fail
  go_ret
  exact HE.out

theorem step_ok (h : Pair W o w p q ps n T) (op : OpM) (mw : inW op.n) (hT : T + op.data.length ≤ 1048576) : Calls Try.prog 12 #[ptr p, ptr q, opV op] w (StepP W p q (doneM n op).1 (T + op.data.length)) := by
  by_cases k0 : op.kind = 0
  · exact step0_ok h op k0
  by_cases k1 : op.kind = 1
  · exact step1_ok h op k1 hT
  by_cases k2 : op.kind = 2
  · exact step2_ok h op k2
  by_cases k3 : op.kind = 3
  · exact step3_ok h op k3 mw
  by_cases k4 : op.kind = 4
  · exact step4_ok h op k4
  by_cases k5 : op.kind = 5
  · exact step5_ok h op k5
  by_cases k6 : op.kind = 6
  · exact step6_ok h op k6 mw
  by_cases k7 : op.kind = 7
  · exact step7_ok h op k7 hT
  by_cases k8 : op.kind = 8
  · exact step8_ok h op k8
  · exact step9_ok h op (by omega)
end
end Go.Proofs.Ytlgboamedjoidaa
