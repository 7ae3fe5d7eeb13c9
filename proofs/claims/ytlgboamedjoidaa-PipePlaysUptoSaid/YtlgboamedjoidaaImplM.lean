import Derived.Test.YtlgboamedjoidaaImplN
import Derived.StillTailTactics
namespace Go.Proofs.Ytlgboamedjoidaa
open Go Go.RowKit
section
variable {o : Roles} {w : World} {r : List Nat} {p : Nat} {ps : List Nat} {n : NI}

/-- How many of the bytes that are there are told, if so many are asked for. -/
def howMany (m : Int) (there : Nat) : Nat := (min (max m 0) there).toNat
theorem howMany_int (m : Int) (t : Nat) : (howMany m t : Int) = min (max m 0) t := by unfold howMany; omega
theorem howMany_le (m : Int) (t : Nat) : howMany m t ≤ t := by unfold howMany; omega
def txt (l : List UInt8) : Value := .string ⟨l.toArray⟩

set_option maxHeartbeats 400000 in
theorem Take_out (h : Net o w r p ps n) (c : Int) (hb : outR ps c) (m : Int) :
    Calls Try.prog 24 #[ptr p, .int .i64 c, .int .i64 m] w (Did o w r p ps n (.tuple #[txt [], .int .i64 60])) := by
  have H := whole_out h c hb
  have D := Did.same h (.tuple #[txt [], .int .i64 60]) 0
  clear hb h
  unfold ptr at *
  go_enter Try.func24, Try.ntmps24
  go_wp2_with (go_at_call 49; refine H.mono ?_; rintro e w' ⟨rfl, rfl⟩)
  go_ret2
  exact D

set_option maxHeartbeats 400000 in
theorem Cut_out (h : Net o w r p ps n) (c : Int) (hb : outR ps c) :
    Calls Try.prog 30 #[ptr p, .int .i64 c] w (Did o w r p ps n (.int .i64 60)) := by
  have H := whole_out h c hb
  have D := Did.same h (.int .i64 60) 0
  clear hb h
  unfold ptr at *
  go_enter Try.func30, Try.ntmps30
  go_wp2_with (go_at_call 49; refine H.mono ?_; rintro e w' ⟨rfl, rfl⟩)
  go_ret
  exact D

set_option maxHeartbeats 400000 in
theorem Close_out (h : Net o w r p ps n) (c : Int) (hb : outR ps c) :
    Calls Try.prog 35 #[ptr p, .int .i64 c] w (Did o w r p ps n (.int .i64 60)) := by
  have H := served_out h c hb
  have D := Did.same h (.int .i64 60) 0
  clear hb h
  unfold ptr at *
  go_enter Try.func35, Try.ntmps35
  go_wp2_with (go_at_call 44; refine H.mono ?_; rintro e w' ⟨rfl, rfl⟩)
  go_ret
  exact D

set_option maxHeartbeats 400000 in
theorem Room_out (h : Net o w r p ps n) (c : Int) (hb : outR ps c) :
    Calls Try.prog 20 #[ptr p, .int .i64 c] w (Did o w r p ps n (.int .i64 0)) := by
  have H := served_out h c hb
  have D := Did.same h (.int .i64 0) 0
  clear hb h
  unfold ptr at *
  go_enter Try.func20, Try.ntmps20
  go_wp2_with (go_at_call 44; refine H.mono ?_; rintro e w' ⟨rfl, rfl⟩)
  go_ret
  exact D

set_option maxHeartbeats 400000 in
theorem Read_out (h : Net o w r p ps n) (c : Int) (hb : outR ps c) (m : Int) :
    Calls Try.prog 22 #[ptr p, .int .i64 c, .int .i64 m] w (Did o w r p ps n (.tuple #[txt [], .bool false, .int .i64 60])) := by
  have H := served_out h c hb
  have D := Did.same h (.tuple #[txt [], .bool false, .int .i64 60]) 0
  clear hb h
  unfold ptr at *
  go_enter Try.func22, Try.ntmps22
  go_wp2_with (go_at_call 44; refine H.mono ?_; rintro e w' ⟨rfl, rfl⟩)
  go_ret3
  exact D

set_option maxHeartbeats 400000 in
theorem Write_out (h : Net o w r p ps n) (c : Int) (hb : outR ps c) (s : ByteArray) :
    Calls Try.prog 23 #[ptr p, .int .i64 c, .string s] w (Did o w r p ps n (.tuple #[.int .i64 0, .int .i64 60])) := by
  have H := served_out h c hb
  have D := Did.same h (.tuple #[.int .i64 0, .int .i64 60]) 0
  clear hb h
  unfold ptr at *
  go_enter Try.func23, Try.ntmps23
  go_wp2_with (go_at_call 44; refine H.mono ?_; rintro e w' ⟨rfl, rfl⟩)
  go_ret2
  exact D

set_option maxHeartbeats 400000 in
theorem Cut_in (h : Net o w r p ps n) {i b : Nat} {c : CI} (hb : ps[i]? = some b) (hi : n.conns[i]? = some c) :
    Calls Try.prog 30 #[ptr p, .int .i64 i] w (Did o w r p ps (n.put i (if wholeE c = 0 then c.cut_ else c)) (if wholeE c = 0 then .int .i64 0 else .int .i64 (wholeE c))) := by
  have H := whole_in h hb hi
  by_cases hE : wholeE c = 0
  · rw [pair_ok hE] at H
    simp only [if_pos hE]
    obtain ⟨uv, dv, hC⟩ := h.get hb hi
    have hc := hC.blk.cell
    have hf := hC.blk.free
    have ⟨h1, h2⟩ := hC.cut_
    have D := Did.one h hb h1 h2 (.int .i64 0) 0
    clear h hb hi hE hC h1 h2
    unfold ptr at *
    go_enter Try.func30, Try.ntmps30
    go_wp2_with (first | (go_at_call 49; refine H.mono ?_; rintro e w' ⟨rfl, rfl⟩))
    go_ret
    exact D
  · rw [pair_no hE] at H
    simp only [if_neg hE]
    rw [NI.put_same n i c hi]
    have D := Did.same h (.int .i64 (wholeE c)) 0
    generalize wholeE c = E at *
    clear h hb hi hE
    unfold ptr at *
    go_enter Try.func30, Try.ntmps30
    go_wp2_with (go_at_call 49; refine H.mono ?_; rintro e w' ⟨rfl, rfl⟩)
    go_ret
    exact D

set_option maxHeartbeats 400000 in
theorem Close_in (h : Net o w r p ps n) {i b : Nat} {c : CI} (hb : ps[i]? = some b) (hi : n.conns[i]? = some c) :
    Calls Try.prog 35 #[ptr p, .int .i64 i] w (Did o w r p ps (n.put i (if servedE c = 0 then c.close_ else c)) (if servedE c = 0 then .int .i64 0 else .int .i64 (servedE c))) := by
  have H := served_in h hb hi
  by_cases hE : servedE c = 0
  · rw [pair_ok hE] at H
    simp only [if_pos hE]
    obtain ⟨uv, dv, hC⟩ := h.get hb hi
    have hc := hC.blk.cell
    have hf := hC.blk.free
    have ⟨h1, h2⟩ := hC.close_
    have D := Did.one h hb h1 h2 (.int .i64 0) 0
    clear h hb hi hE hC h1 h2
    unfold ptr at *
    go_enter Try.func35, Try.ntmps35
    go_wp2_with (first | (go_at_call 44; refine H.mono ?_; rintro e w' ⟨rfl, rfl⟩))
    go_ret
    exact D
  · rw [pair_no hE] at H
    simp only [if_neg hE]
    rw [NI.put_same n i c hi]
    have D := Did.same h (.int .i64 (servedE c)) 0
    generalize servedE c = E at *
    clear h hb hi hE
    unfold ptr at *
    go_enter Try.func35, Try.ntmps35
    go_wp2_with (go_at_call 44; refine H.mono ?_; rintro e w' ⟨rfl, rfl⟩)
    go_ret
    exact D

set_option maxHeartbeats 400000 in
theorem Room_in (h : Net o w r p ps n) {i b : Nat} {c : CI} (hb : ps[i]? = some b) (hi : n.conns[i]? = some c) :
    Calls Try.prog 20 #[ptr p, .int .i64 i] w (Did o w r p ps (n.put i (if servedE c = 0 then c else c)) (if servedE c = 0 then .int .i64 ((n.win : Int) - (c.dn.length - c.tk : Nat)) else .int .i64 0)) := by
  have H := served_in h hb hi
  by_cases hE : servedE c = 0
  · rw [pair_ok hE] at H
    simp only [if_pos hE]
    obtain ⟨uv, dv, hC⟩ := h.get hb hi
    obtain ⟨a, cap, hv, _⟩ := hC.dn.slice
    have H2 := room_ok b 2 w dv a c.dn.length cap c.tk n.win (hC.blk.cell 2) hv (hC.blk.cell 3) (hC.blk.cell 4) hC.dnS hC.tkle (by obtain ⟨_, h⟩ := h; exact h.winle)
    rw [NI.put_same n i c hi]
    have D := fun k => Did.same h (.int .i64 ((n.win : Int) - (c.dn.length - c.tk : Nat))) k
    generalize (n.win : Int) - (c.dn.length - c.tk : Nat) = E at *
    clear h hb hi hE hC hv
    unfold ptr at *
    go_enter Try.func20, Try.ntmps20
    go_wp2_with (first | (go_at_call 44; refine H.mono ?_; rintro e w' ⟨rfl, rfl⟩) | (go_at_call 45; refine H2.mono ?_; rintro e w' ⟨rfl, k, rfl⟩))
    go_ret
    exact D k
  · rw [pair_no hE] at H
    simp only [if_neg hE]
    rw [NI.put_same n i c hi]
    have D := Did.same h (.int .i64 0) 0
    generalize servedE c = E at *
    clear h hb hi hE
    unfold ptr at *
    go_enter Try.func20, Try.ntmps20
    go_wp2_with (go_at_call 44; refine H.mono ?_; rintro e w' ⟨rfl, rfl⟩)
    go_ret
    exact D

set_option maxHeartbeats 400000 in
theorem Take_in (h : Net o w r p ps n) {i b : Nat} {c : CI} (hb : ps[i]? = some b) (hi : n.conns[i]? = some c) (m : Int) (mw : -9223372036854775808 ≤ m ∧ m ≤ 9223372036854775807) :
    Calls Try.prog 24 #[ptr p, .int .i64 i, .int .i64 m] w (Did o w r p ps (n.put i (if wholeE c = 0 then c.tk_ (howMany m (c.dn.length - c.tk)) else c)) (if wholeE c = 0 then .tuple #[txt ((c.dn.drop c.tk).take (howMany m (c.dn.length - c.tk))), .int .i64 0] else .tuple #[txt [], .int .i64 (wholeE c)])) := by
  have H := whole_in h hb hi
  by_cases hE : wholeE c = 0
  · rw [pair_ok hE] at H
    simp only [if_pos hE]
    obtain ⟨uv, dv, hC⟩ := h.get hb hi
    have hk := howMany_int m (c.dn.length - c.tk)
    have hk2 := howMany_le m (c.dn.length - c.tk)
    have htk := hC.tkle
    have H2 := take_ok b 2 hC.dn (hC.blk.cell 2) (hC.blk.cell 3) hC.dnS hC.tkle (hC.blk.free 3) m (howMany m (c.dn.length - c.tk)) (by rw [hk]; omega) mw
    have ⟨h1, h2⟩ := hC.tk_ (howMany m (c.dn.length - c.tk)) (by omega)
    have D := fun k => Did.one h hb h1 h2 (.tuple #[txt ((c.dn.drop c.tk).take (howMany m (c.dn.length - c.tk))), .int .i64 0]) k
    generalize (w.setCell ⟨b, 3, none⟩ (.int .i64 ((c.tk + howMany m (c.dn.length - c.tk) : Nat) : Int))) = W1 at *
    generalize ((c.dn.drop c.tk).take (howMany m (c.dn.length - c.tk))) = T at *
    clear h hb hi hE hC h1 h2 hk hk2 htk mw
    unfold ptr at *
    go_enter Try.func24, Try.ntmps24
    go_wp2_with (first | (go_at_call 49; refine H.mono ?_; rintro e w' ⟨rfl, rfl⟩) | (go_at_call 48; refine H2.mono ?_; rintro e w' ⟨rfl, k, rfl⟩))
    go_ret2
    exact D _
  · rw [pair_no hE] at H
    simp only [if_neg hE]
    rw [NI.put_same n i c hi]
    have D := Did.same h (.tuple #[txt [], .int .i64 (wholeE c)]) 0
    generalize wholeE c = E at *
    clear h hb hi hE
    unfold ptr at *
    go_enter Try.func24, Try.ntmps24
    go_wp2_with (go_at_call 49; refine H.mono ?_; rintro e w' ⟨rfl, rfl⟩)
    go_ret2
    exact D

set_option maxHeartbeats 400000 in
theorem Write_in (h : Net o w r p ps n) {i b : Nat} {c : CI} (hb : ps[i]? = some b) (hi : n.conns[i]? = some c) (s : List UInt8) (hs : c.dn.length + s.length ≤ 1099511627776) (hwait : c.dn.length - c.tk ≤ n.win) :
    Calls Try.prog 23 #[ptr p, .int .i64 i, .string ⟨s.toArray⟩] w (Did o w r p ps (n.put i (if servedE c = 0 then c.wr_ (s.take (min s.length (n.win - (c.dn.length - c.tk)))) else c)) (if servedE c = 0 then .tuple #[.int .i64 (min s.length (n.win - (c.dn.length - c.tk)) : Nat), .int .i64 0] else .tuple #[.int .i64 0, .int .i64 (servedE c)])) := by
  have H := served_in h hb hi
  by_cases hE : servedE c = 0
  · rw [pair_ok hE] at H
    simp only [if_pos hE]
    obtain ⟨uv, dv, hC⟩ := h.get hb hi
    obtain ⟨a, cap, hv, _⟩ := hC.dn.slice
    have hwin : n.win ≤ 1048576 := by obtain ⟨_, h⟩ := h; exact h.winle
    have H2 := room_ok b 2 w dv a c.dn.length cap c.tk n.win (hC.blk.cell 2) hv (hC.blk.cell 3) (hC.blk.cell 4) hC.dnS hC.tkle hwin
    obtain ⟨rm, hrm⟩ : ∃ rm : Nat, rm = n.win - (c.dn.length - c.tk) := ⟨_, rfl⟩
    rw [show ((n.win : Int) - (c.dn.length - c.tk : Nat)) = rm from by omega] at H2
    rw [← hrm]
    obtain ⟨k, hk⟩ : ∃ k, k = min s.length rm := ⟨_, rfl⟩
    rw [← hk]
    have hkl : (s.take k).length = k := by rw [List.length_take]; omega
    have H3 := fun q => put_ok (r := r ++ [2, i] ++ [2]) b 2 (hC.dn.drewN q) (s := s.take k) (hC.blk.cell 2) (hC.blk.free 2) (by rw [hC.blk.role]; exact np_app (by simp)) (by omega)
    have D : ∀ q v' w1 o', Stp (r ++ [2, i] ++ [2]) o (w.drewN q) o' w1 → Row o' w1 (r ++ [2, i] ++ [2]) 5 1 v' (c.dn ++ s.take k).length ((c.dn ++ s.take k).map bv) → ∀ j, Did o w r p ps (n.put i (c.wr_ (s.take k))) (.tuple #[.int .i64 k, .int .i64 0]) (.returned (.tuple #[.int .i64 k, .int .i64 0])) ((w1.setCell ⟨b, 2, none⟩ v').drewN j) := fun q v' w1 o' st hr j =>
      have ⟨h1, h2⟩ := hC.wr_ (s.take k) st.fromN hr (by simp; omega)
      Did.one h hb h1 h2 _ j
    have hcut : ∀ (S : ByteArray), S = ⟨s.toArray⟩ → S.extract 0 k = ⟨(s.take k).toArray⟩ := by
      intro S hS; subst hS
      apply ByteArray.ext; apply Array.ext'
      simp
    have hcut := hcut _ rfl
    have hcase : (s.length ≤ rm ∧ k = s.length) ∨ (rm < s.length ∧ k = rm) := by omega
    have hkle : k ≤ s.length := by omega
    clear h hb hi hE hC hv hwait hwin hrm hkl hk
    generalize s.take k = T at *
    unfold ptr at *
    rcases hcase with ⟨hlt, rfl⟩ | ⟨hlt, rfl⟩
    all_goals
      go_enter Try.func23, Try.ntmps23
      go_wp2_with (first | (go_at_call 44; refine H.mono ?_; rintro e w' ⟨rfl, rfl⟩) | (go_at_call 45; refine H2.mono ?_; rintro e w' ⟨rfl, q, rfl⟩))
      go_still_tail 7, (by kernel_rfl)
      change wpList _ _ _ _ _ (w'.drewN (q + 1))
      go_wp2_with fail
      refine (H3 _).mono ?_
      rintro e w' ⟨rfl, v', w1, o', rfl, st, hr⟩
      go_wp2_with fail
      go_ret2
      exact D _ _ _ _ st hr 0
  · rw [pair_no hE] at H
    simp only [if_neg hE]
    rw [NI.put_same n i c hi]
    have D := Did.same h (.tuple #[.int .i64 0, .int .i64 (servedE c)]) 0
    generalize servedE c = E at *
    clear h hb hi hE
    unfold ptr at *
    go_enter Try.func23, Try.ntmps23
    go_wp2_with (go_at_call 44; refine H.mono ?_; rintro e w' ⟨rfl, rfl⟩)
    go_ret2
    exact D
end
end Go.Proofs.Ytlgboamedjoidaa
