import Derived.Test.YtlgboamedjoidaaDone
namespace Go.Proofs.Ytlgboamedjoidaa
open Go Go.RowKit
section
variable {o o' : Roles} {w w' : World} {r s : List Nat} {p : Nat} {ps : List Nat} {n : NI}
set_option maxRecDepth 100000 in
set_option maxHeartbeats 1000000 in
theorem done0_ok (h : Net o w r p ps n) (op : OpM) (hk : op.kind = 0) : Calls Try.prog 14 #[ptr p, opV op] w (DoneP o w r p (doneM n op)) := by
  have hl : ps.length = n.conns.length := by obtain ⟨_, h⟩ := h; exact h.len
  have hf : ps.length ≤ 1024 := by obtain ⟨_, h⟩ := h; exact h.few
  have hA := h.alloc (opC op) []
  simp only [doneM, hk, if_true]
  by_cases hc : ps.length < 1024
  · rw [if_pos (by omega)]
    have H := Connect_ok hA hc
    clear h hA hl hf hc
    obtain ⟨kind, conn, nn, data⟩ := op
    subst hk
    unfold ptr opV opC at *
    go_enter Try.func14, Try.ntmps14
    go_wp2_with fail
    refine H.mono ?_; rintro e w2 ⟨b, o2, rfl, hN, st⟩
    have D := Lib.hid (DoneP.of' hN st [] [])
    clear hN st H
    go_wp2_with fail
    go_ret2
    exact D.out
  · rw [if_neg (by omega)]
    have H := Connect_full hA (by omega)
    have D := Lib.hid (DoneP.of' hA (Stp.refl _ _ _) [] [])
    clear h hA hl hf hc
    obtain ⟨kind, conn, nn, data⟩ := op
    subst hk
    unfold ptr opV opC at *
    go_enter Try.func14, Try.ntmps14
    go_wp2_with fail
    refine H.mono ?_; rintro e w2 ⟨rfl, rfl⟩
    go_wp2_with fail
    go_ret2
    exact D.out

set_option maxRecDepth 100000 in
set_option maxHeartbeats 1000000 in
theorem done5_ok (h : Net o w r p ps n) (op : OpM) (hk : op.kind = 5) : Calls Try.prog 14 #[ptr p, opV op] w (DoneP o w r p (doneM n op)) := by
  have hl : ps.length = n.conns.length := by obtain ⟨_, h⟩ := h; exact h.len
  have hf : n.next ≤ ps.length := by obtain ⟨_, h⟩ := h; exact h.nextle
  have hA := h.alloc (opC op) []
  by_cases hc : n.next = ps.length
  · have hM : doneM n op = (n, [], []) := by simp [doneM, hk, show n.conns[n.next]? = none by rw [hc, hl]; simp]
    rw [hM]
    have H := Accept_none hA hc
    have D := fun k => Lib.hid (DoneP.of' (hA.drewN k) ((Stp.refl _ _ _).drewN k) [] [])
    clear h hA hl hf hc hM
    obtain ⟨kind, conn, nn, data⟩ := op
    subst hk
    unfold ptr opV opC at *
    go_enter Try.func14, Try.ntmps14
    go_wp2_with fail
    refine H.mono ?_; rintro e w2 ⟨rfl, k, rfl⟩
    go_wp2_with fail
    go_ret2
    exact (D k).out
  · obtain ⟨b, x, hb, hx⟩ := h.at (i := n.next) (by omega)
    have hM : doneM n op = ({ n.put n.next x.accept_ with next := n.next + 1 }, [], []) := by simp [doneM, hk, hx]
    rw [hM]
    have H := Accept_some hA hb hx
    clear h hA hl hf hc hb hx hM
    generalize { n.put n.next x.accept_ with next := n.next + 1 } = N2 at *
    obtain ⟨kind, conn, nn, data⟩ := op
    subst hk
    unfold ptr opV opC at *
    go_enter Try.func14, Try.ntmps14
    go_wp2_with fail
    refine H.mono ?_; rintro e w2 ⟨rfl, o2, hN, st⟩
    have D := Lib.hid (DoneP.of' hN st [] [])
    clear hN st H
    go_wp2_with fail
    go_ret2
    exact D.out

set_option maxRecDepth 100000 in
set_option maxHeartbeats 1000000 in
theorem done6_out (h : Net o w r p ps n) (op : OpM) (hk : op.kind = 6) (hc : outR ps op.conn) :
    Calls Try.prog 14 #[ptr p, opV op] w (DoneP o w r p (n, [], [])) := by
  have H := Read_out (h.alloc (opC op) []) op.conn hc op.n
  clear h hc
  obtain ⟨kind, conn, nn, data⟩ := op
  subst hk
  unfold ptr opV opC at *
  go_enter Try.func14, Try.ntmps14
  go_wp2_with fail
  refine H.mono ?_; rintro e w2 ⟨rfl, o2, hN, st⟩
  have D := Lib.hid (DoneP.of' hN st [] [])
  clear hN st H
  go_wp2_with fail
  go_ret2
  exact D.out

set_option maxRecDepth 100000 in
set_option maxHeartbeats 1000000 in
theorem done6_in (h : Net o w r p ps n) (op : OpM) (hk : op.kind = 6) {i b : Nat} {x : CI} (hc : op.conn = i) (hb : ps[i]? = some b) (hi : n.conns[i]? = some x) (mw : -9223372036854775808 ≤ op.n ∧ op.n ≤ 9223372036854775807) :
    Calls Try.prog 14 #[ptr p, opV op] w (DoneP o w r p (n.put i (doneC n.win x op).1, (doneC n.win x op).2)) := by
  have H := Read_in (h.alloc (opC op) []) hb hi op.n mw
  clear h hb hi mw
  have hX : doneC n.win x op = (if servedE x = 0 then x.rd_ (howMany op.n (x.up.length - x.rd)) else x, if servedE x = 0 then (x.up.drop x.rd).take (howMany op.n (x.up.length - x.rd)) else [], []) := by simp [doneC, hk]
  rw [hX]
  clear hX
  generalize (if servedE x = 0 then x.rd_ (howMany op.n (x.up.length - x.rd)) else x) = X at *
  have hV : (if servedE x = 0 then Value.tuple #[txt ((x.up.drop x.rd).take (howMany op.n (x.up.length - x.rd))), .bool (x.en && x.rd + howMany op.n (x.up.length - x.rd) == x.up.length), .int .i64 0] else .tuple #[txt [], .bool false, .int .i64 (servedE x)])
      = .tuple #[txt (if servedE x = 0 then (x.up.drop x.rd).take (howMany op.n (x.up.length - x.rd)) else []), .bool (if servedE x = 0 then (x.en && x.rd + howMany op.n (x.up.length - x.rd) == x.up.length) else false), .int .i64 (if servedE x = 0 then 0 else servedE x)] := by
    split <;> simp_all
  rw [hV] at H
  clear hV
  generalize (if servedE x = 0 then (x.up.drop x.rd).take (howMany op.n (x.up.length - x.rd)) else []) = T at *
  generalize (if servedE x = 0 then (x.en && x.rd + howMany op.n (x.up.length - x.rd) == x.up.length) else false) = B at *
  generalize (if servedE x = 0 then 0 else servedE x) = E at *
  obtain ⟨kind, conn, nn, data⟩ := op
  subst hk; subst hc
  unfold ptr opV opC at *
  go_enter Try.func14, Try.ntmps14
  go_wp2_with fail
  refine H.mono ?_; rintro e w2 ⟨rfl, o2, hN, st⟩
  have D := Lib.hid (DoneP.of' hN st T [])
  clear hN st H
  go_wp2_with fail
  go_ret2
  exact D.out

set_option maxRecDepth 100000 in
set_option maxHeartbeats 1000000 in
theorem done7_any {n2 : NI} (op : OpM) (hk : op.kind = 7) (hr : ¬ r <+: []) (k e0 : Nat) (hkd : k ≤ op.data.length)
    (H : Calls Try.prog 23 #[.pointer (some ⟨p, 0, none⟩), .int .i64 op.conn, .string ⟨op.data.toArray⟩] (w.alloc (opC op)) (Did (o.put w.heap.size []) (w.alloc (opC op)) r p ps n2 (.tuple #[.int .i64 k, .int .i64 e0]))) :
    Calls Try.prog 14 #[ptr p, opV op] w (DoneP o w r p (n2, [], op.data.take k)) := by
  have hB := Blk.new o w [] #[.int .i64 op.kind, .int .i64 op.conn, .int .i64 op.n, .string ⟨op.data.toArray⟩] 39 _ rfl
  have hcut : ByteArray.extract ⟨op.data.toArray⟩ 0 k = ⟨(op.data.take k).toArray⟩ := by
    apply ByteArray.ext; apply Array.ext'
    simp
  obtain ⟨kind, conn, nn, data⟩ := op
  subst hk
  unfold ptr opV opC at *
  dsimp only at *
  generalize hT : data.take k = T at *
  go_enter Try.func14, Try.ntmps14
  go_wp2_with fail
  refine H.mono ?_; rintro e w2 ⟨rfl, o2, hN, st⟩
  have hB2 := (hB.keep st hr).cell
  have D := fun q => Lib.hid (DoneP.of' (hN.drewN q) (st.drewN q) [] T)
  clear hN st H hB hT
  have h0 : decide ((k : Int) < 0) = false := by simp
  have h1 : decide ((data.length : Int) < k) = false := by simp; omega
  go_wp2_with fail
  go_quiet (fail)
  go_wp2_with fail
  go_ret2
  exact (D _).out

theorem done7_out (h : Net o w r p ps n) (op : OpM) (hk : op.kind = 7) (hr : ¬ r <+: []) (hc : outR ps op.conn) :
    Calls Try.prog 14 #[ptr p, opV op] w (DoneP o w r p (n, [], [])) :=
  done7_any op hk hr 0 60 (Nat.zero_le _) (Write_out (h.alloc (opC op) []) op.conn hc ⟨op.data.toArray⟩)

theorem done7_in (h : Net o w r p ps n) (op : OpM) (hk : op.kind = 7) (hr : ¬ r <+: []) {i b : Nat} {x : CI} (hc : op.conn = i) (hb : ps[i]? = some b) (hi : n.conns[i]? = some x) (hs : x.dn.length + op.data.length ≤ 1099511627776) (hwait : x.dn.length - x.tk ≤ n.win) :
    Calls Try.prog 14 #[ptr p, opV op] w (DoneP o w r p (n.put i (doneC n.win x op).1, (doneC n.win x op).2)) := by
  have H := Write_in (h.alloc (opC op) []) hb hi op.data hs hwait
  rw [← hc] at H
  have hX : doneC n.win x op = (if servedE x = 0 then x.wr_ (op.data.take (min op.data.length (n.win - (x.dn.length - x.tk)))) else x, [], if servedE x = 0 then op.data.take (min op.data.length (n.win - (x.dn.length - x.tk))) else []) := by simp [doneC, hk]
  rw [hX]
  by_cases hE : servedE x = 0
  · simp only [if_pos hE] at H ⊢
    exact done7_any op hk hr _ 0 (Nat.min_le_left _ _) H
  · simp only [if_neg hE] at H ⊢
    obtain ⟨e0, he⟩ : ∃ e0 : Nat, servedE x = e0 := by unfold servedE; split <;> (try split) <;> first | exact ⟨61, rfl⟩ | exact ⟨0, rfl⟩ | exact ⟨60, rfl⟩
    rw [he] at H
    exact done7_any op hk hr 0 e0 (Nat.zero_le _) H

set_option maxRecDepth 100000 in
set_option maxHeartbeats 1000000 in
theorem done_other (h : Net o w r p ps n) (op : OpM) (hk : op.kind < 0 ∨ 8 < op.kind ∨ op.kind = 9) : Calls Try.prog 14 #[ptr p, opV op] w (DoneP o w r p (n, [], [])) := by
  have D := Lib.hid (DoneP.of' (h.alloc (opC op) []) (Stp.refl _ _ _) [] [])
  clear h
  obtain ⟨kind, conn, nn, data⟩ := op
  dsimp only at hk
  have k0 : (kind == 0) = false := by simp; omega
  have k1 : (kind == 1) = false := by simp; omega
  have k2 : (kind == 2) = false := by simp; omega
  have k3 : (kind == 3) = false := by simp; omega
  have k4 : (kind == 4) = false := by simp; omega
  have k5 : (kind == 5) = false := by simp; omega
  have k6 : (kind == 6) = false := by simp; omega
  have k7 : (kind == 7) = false := by simp; omega
  have k8 : (kind == 8) = false := by simp; omega
  clear hk
  unfold ptr opV opC at *
  go_enter Try.func14, Try.ntmps14
  go_wp2_with fail
  go_ret2
  exact D.out

theorem NI.at_out (h : Net o w r p ps n) {c : Int} (hc : outR ps c) : n.at c = none := by
  have hl : ps.length = n.conns.length := by obtain ⟨_, h⟩ := h; exact h.len
  unfold NI.at
  rcases hc with hc | hc
  · rw [if_pos hc]
  · rw [if_neg (by omega)]
    exact List.getElem?_eq_none (by omega)

/-- done: what every call does, and tells. -/
theorem done_ok (h : Net o w r p ps n) (hr : ¬ r <+: []) (op : OpM) (mw : -9223372036854775808 ≤ op.n ∧ op.n ≤ 9223372036854775807)
    (hs : ∀ x ∈ n.conns, x.up.length + op.data.length ≤ 1099511627776 ∧ x.dn.length + op.data.length ≤ 1099511627776) (hw : ∀ x ∈ n.conns, x.dn.length - x.tk ≤ n.win) :
    Calls Try.prog 14 #[ptr p, opV op] w (DoneP o w r p (doneM n op)) := by
  by_cases h0 : op.kind = 0
  · exact done0_ok h op h0
  by_cases h5 : op.kind = 5
  · exact done5_ok h op h5
  have hM : doneM n op = (match n.at op.conn with | none => (n, [], []) | some x => (n.put op.conn.toNat (doneC n.win x op).1, (doneC n.win x op).2)) := by simp only [doneM, if_neg h0, if_neg h5]; rfl
  rw [hM]
  by_cases hk : op.kind < 0 ∨ 8 < op.kind ∨ op.kind = 9
  · have hX : ∀ x, doneC n.win x op = (x, [], []) := fun x => by
      unfold doneC
      repeat rw [if_neg (by omega)]
    cases hat : n.at op.conn with
    | none => exact done_other h op hk
    | some x =>
      dsimp only
      rw [hX]
      have : n.put op.conn.toNat x = n := by
        refine NI.put_same n _ x ?_
        unfold NI.at at hat
        split at hat
        · cases hat
        · exact hat
      rw [this]
      exact done_other h op hk
  by_cases hc : outR ps op.conn
  · rw [NI.at_out h hc]
    dsimp only
    by_cases h1 : op.kind = 1
    · exact done1_out h op h1 hc
    by_cases h2 : op.kind = 2
    · exact done2_out h op h2 hc
    by_cases h3 : op.kind = 3
    · exact done3_out h op h3 hc
    by_cases h4 : op.kind = 4
    · exact done4_out h op h4 hc
    by_cases h6 : op.kind = 6
    · exact done6_out h op h6 hc
    by_cases h7 : op.kind = 7
    · exact done7_out h op h7 hr hc
    · exact done8_out h op (by omega) hc
  · obtain ⟨i, hi⟩ : ∃ i : Nat, op.conn = i := ⟨op.conn.toNat, by unfold outR at hc; omega⟩
    have hip : i < ps.length := by unfold outR at hc; omega
    obtain ⟨b, x, hb, hx⟩ := h.at hip
    have hat : n.at op.conn = some x := by unfold NI.at; rw [if_neg (by omega), hi]; exact hx
    have hmem : x ∈ n.conns := List.mem_of_getElem? hx
    rw [hat]
    dsimp only
    rw [show op.conn.toNat = i by omega]
    have e1 : ∀ k, op.kind = k → (k = 1 ∨ k = 2 ∨ k = 3 ∨ k = 4 ∨ k = 8) → (doneC n.win x op).2 = ([], []) := fun k hk hh => by
      unfold doneC
      rcases hh with rfl | rfl | rfl | rfl | rfl <;> simp [hk]
    have e2 : ∀ k, op.kind = k → (k = 1 ∨ k = 2 ∨ k = 3 ∨ k = 4 ∨ k = 8) → (n.put i (doneC n.win x op).1, (doneC n.win x op).2) = (n.put i (doneC n.win x op).1, ([] : List UInt8), ([] : List UInt8)) := fun k hk hh => by rw [e1 k hk hh]
    by_cases h1 : op.kind = 1
    · rw [e2 1 h1 (by simp)]; exact done1_in h op h1 hi hb hx (hs x hmem).1
    by_cases h2 : op.kind = 2
    · rw [e2 2 h2 (by simp)]; exact done2_in h op h2 hi hb hx
    by_cases h3 : op.kind = 3
    · rw [e2 3 h3 (by simp)]; exact done3_in h op h3 hi hb hx mw
    by_cases h4 : op.kind = 4
    · rw [e2 4 h4 (by simp)]; exact done4_in h op h4 hi hb hx
    by_cases h6 : op.kind = 6
    · exact done6_in h op h6 hi hb hx mw
    by_cases h7 : op.kind = 7
    · exact done7_in h op h7 hr hi hb hx (hs x hmem).2 (hw x hmem)
    · have h8 : op.kind = 8 := by omega
      rw [e2 8 h8 (by simp)]; exact done8_in h op h8 hi hb hx
end
end Go.Proofs.Ytlgboamedjoidaa
