import Derived.Test.YtlgboamedjoidaaImplC
namespace Go.Proofs.Ytlgboamedjoidaa
open Go Go.RowKit
section
variable {o : Roles} {w : World} {r : List Nat} {p : Nat} {ps : List Nat} {n : NI}

/-- The post of a call on connection i: the errno or value v, and the connection is c' now. -/
def Did (o : Roles) (w : World) (r : List Nat) (p : Nat) (ps : List Nat) (n : NI) (v : Value) (e : Ending) (w' : World) : Prop :=
  e = .returned v ∧ ∃ o', Net o' w' r p ps n ∧ Stp r o w o' w'

theorem Did.same (h : Net o w r p ps n) (v : Value) (k : Nat) : Did o w r p ps n v (.returned v) (w.drewN k) := ⟨rfl, o, h.drewN k, (Stp.refl r o w).drewN k⟩
theorem Did.one (h : Net o w r p ps n) {i b : Nat} {c' : CI} {o' : Roles} {w' : World} (hb : ps[i]? = some b) (hC : Conn o' w' (r ++ [2, i]) b n.win c') (st : Stp (r ++ [2, i]) o w o' w') (v : Value) (k : Nat) :
    Did o w r p ps (n.put i c') v (.returned v) (w'.drewN k) := ⟨rfl, o', (h.upd hb st hC).drewN k, (st.wide (List.prefix_append _ _)).drewN k⟩

def outR (ps : List Nat) (c : Int) : Prop := c < 0 ∨ (ps.length : Int) ≤ c

set_option maxHeartbeats 400000 in
theorem Send_out (h : Net o w r p ps n) (c : Int) (hb : outR ps c) (s : ByteArray) :
    Calls Try.prog 21 #[ptr p, .int .i64 c, .string s] w (Did o w r p ps n (.int .i64 60)) := by
  have H := sending_out h c hb
  have D := Did.same h (.int .i64 60) 0
  clear hb h
  unfold ptr at *
  go_enter Try.func21, Try.ntmps21
  go_wp2_with (go_at_call 46; refine H.mono ?_; rintro e w' ⟨rfl, rfl⟩)
  go_ret
  exact D

set_option maxHeartbeats 400000 in
theorem Send_in (h : Net o w r p ps n) {i b : Nat} {c : CI} (hb : ps[i]? = some b) (hi : n.conns[i]? = some c) (s : List UInt8) (hs : c.up.length + s.length ≤ 1099511627776) :
    Calls Try.prog 21 #[ptr p, .int .i64 i, .string ⟨s.toArray⟩] w (Did o w r p ps (n.put i (if sendE c = 0 then c.put_ s else c)) (.int .i64 (sendE c))) := by
  have H := sending_in h hb hi
  by_cases hE : sendE c = 0
  · rw [pair_ok hE] at H
    rw [if_pos hE, hE]
    obtain ⟨uv, dv, hC⟩ := h.get hb hi
    have H2 := put_ok (r := r ++ [2, i] ++ [1]) b 0 hC.up (s := s) (hC.blk.cell 0) (hC.blk.free 0) (by rw [hC.blk.role]; exact np_app (by simp)) hs
    have D : ∀ v' w1 o', Stp (r ++ [2, i] ++ [1]) o w o' w1 → Row o' w1 (r ++ [2, i] ++ [1]) 5 1 v' (c.up ++ s).length ((c.up ++ s).map bv) → Did o w r p ps (n.put i (c.put_ s)) (.int .i64 0) (.returned (.int .i64 0)) (w1.setCell ⟨b, 0, none⟩ v') := fun v' w1 o' st hr =>
      have ⟨h1, h2⟩ := hC.put_ s st hr (by simpa using hs)
      Did.one h hb h1 h2 _ 0
    clear h hb hi hs hE hC
    unfold ptr at *
    go_enter Try.func21, Try.ntmps21
    go_wp2_with (first | (go_at_call 46; refine H.mono ?_; rintro e w' ⟨rfl, rfl⟩) | (go_at_call 47; refine H2.mono ?_; rintro e w' ⟨rfl, v', w1, o', rfl, st, hr⟩))
    go_ret
    exact D _ _ _ st hr
  · rw [pair_no hE] at H
    rw [if_neg hE, NI.put_same n i c hi]
    have D := Did.same h (.int .i64 (sendE c)) 0
    generalize sendE c = E at *
    clear h hb hi hs hE
    unfold ptr at *
    go_enter Try.func21, Try.ntmps21
    go_wp2_with (go_at_call 46; refine H.mono ?_; rintro e w' ⟨rfl, rfl⟩)
    go_ret
    exact D

set_option maxHeartbeats 400000 in
theorem End_out (h : Net o w r p ps n) (c : Int) (hb : outR ps c) :
    Calls Try.prog 27 #[ptr p, .int .i64 c] w (Did o w r p ps n (.int .i64 60)) := by
  have H := sending_out h c hb
  have D := Did.same h (.int .i64 60) 0
  clear hb h
  unfold ptr at *
  go_enter Try.func27, Try.ntmps27
  go_wp2_with (go_at_call 46; refine H.mono ?_; rintro e w' ⟨rfl, rfl⟩)
  go_ret
  exact D

set_option maxHeartbeats 400000 in
theorem End_in (h : Net o w r p ps n) {i b : Nat} {c : CI} (hb : ps[i]? = some b) (hi : n.conns[i]? = some c) :
    Calls Try.prog 27 #[ptr p, .int .i64 i] w (Did o w r p ps (n.put i (if sendE c = 0 then c.end_ else c)) (.int .i64 (sendE c))) := by
  have H := sending_in h hb hi
  by_cases hE : sendE c = 0
  · rw [pair_ok hE] at H
    rw [if_pos hE, hE]
    obtain ⟨uv, dv, hC⟩ := h.get hb hi
    have hc := hC.blk.cell
    have hf := hC.blk.free
    have ⟨h1, h2⟩ := hC.end_
    have D := Did.one h hb h1 h2 (.int .i64 0) 0
    clear h hb hi hE hC h1 h2
    unfold ptr at *
    go_enter Try.func27, Try.ntmps27
    go_wp2_with (go_at_call 46; refine H.mono ?_; rintro e w' ⟨rfl, rfl⟩)
    go_ret
    exact D
  · rw [pair_no hE] at H
    rw [if_neg hE, NI.put_same n i c hi]
    have D := Did.same h (.int .i64 (sendE c)) 0
    generalize sendE c = E at *
    clear h hb hi hE
    unfold ptr at *
    go_enter Try.func27, Try.ntmps27
    go_wp2_with (go_at_call 46; refine H.mono ?_; rintro e w' ⟨rfl, rfl⟩)
    go_ret
    exact D
end
end Go.Proofs.Ytlgboamedjoidaa
