import Derived.Test.YtlgboamedjoidaaImplP
namespace Go.Proofs.Ytlgboamedjoidaa
open Go Go.RowKit
section
variable {o : Roles} {w : World} {r : List Nat} {p : Nat} {ps : List Nat} {n : NI}

def lineV (un wa : Int) (cl en cu : Bool) : Value := .agg #[.int .i64 un, .int .i64 wa, .bool false, .bool cl, .bool en, .bool cu]

set_option maxHeartbeats 400000 in
theorem Line_out (h : Net o w r p ps n) (c : Int) (hb : outR ps c) :
    Calls Try.prog 15 #[ptr p, .int .i64 c] w fun e w' => e = .returned (.tuple #[lineV 0 0 false false false, .int .i64 60]) ∧ Below w.heap.size w w' := by
  have H := fun A => of_out (w := w.alloc A) (h.below ((Below.refl _ _).alloc (Nat.le_refl _) A)) c hb
  clear hb h
  unfold ptr at *
  go_enter Try.func15, Try.ntmps15
  go_wp2_with (go_at_call 41; refine (H _).mono ?_; rintro e w' ⟨rfl, rfl⟩)
  exact bodyPost_ret (v := .tuple #[lineV 0 0 false false false, .int .i64 60]) (by simp [results, Try.results15, go_sem, lineV]) rfl ⟨rfl, (Below.refl _ _).alloc (Nat.le_refl _) _⟩

set_option maxHeartbeats 1000000 in
theorem Line_in (h : Net o w r p ps n) {i b : Nat} {c : CI} (hb : ps[i]? = some b) (hi : n.conns[i]? = some c) :
    Calls Try.prog 15 #[ptr p, .int .i64 i] w fun e w' => e = .returned (.tuple #[lineV (if c.cl || c.cu then 0 else (c.up.length - c.rd : Nat)) (if c.cu then 0 else (c.dn.length - c.tk : Nat)) c.cl c.en c.cu, .int .i64 0]) ∧ Below w.heap.size w w' := by
  have H := fun A => of_in (w := w.alloc A) (h.below ((Below.refl _ _).alloc (Nat.le_refl _) A)) i b hb
  obtain ⟨uv, dv, hC⟩ := h.get hb hi
  have hc := hC.blk.cell
  have hlt := hC.blk.lt
  obtain ⟨a, cap, hv, _⟩ := hC.up.slice
  obtain ⟨a2, cap2, hv2, _⟩ := hC.dn.slice
  have H1 : ∀ W, Below w.heap.size w W → _ := fun W (hW : Below w.heap.size w W) => left_ok b 0 W uv a c.up.length cap c.rd (c.up.length - c.rd) ((hC.below hW).blk.cell 0) hv ((hC.below hW).blk.cell 1) hC.upS (by have := hC.rdle; omega)
  have H2 : ∀ W, Below w.heap.size w W → _ := fun W (hW : Below w.heap.size w W) => left_ok b 2 W dv a2 c.dn.length cap2 c.tk (c.dn.length - c.tk) ((hC.below hW).blk.cell 2) hv2 ((hC.below hW).blk.cell 3) hC.dnS (by have := hC.tkle; omega)
  clear hb h hi hC hv hv2
  obtain ⟨up, rd, dn, tk, acc, en, cl, cu⟩ := c
  dsimp only at *
  generalize up.length - rd = A1 at *
  generalize dn.length - tk = A2 at *
  unfold ptr at *
  have hB := Below.refl w.heap.size w
  cases cu <;> cases cl
  · go_enter Try.func15, Try.ntmps15
    go_wp2_with (first | (go_at_call 41; refine (H _).mono ?_; rintro e w' ⟨rfl, rfl⟩))
    go_region
    go_wp2_with fail
    refine (H2 _ (((hB.alloc (Nat.le_refl _) _).alloc (by simp) _).drew)).mono ?_; rintro e w' ⟨rfl, k, rfl⟩
    go_wp2_with fail
    refine (H1 _ ((below_drewN ((hB.alloc (Nat.le_refl _) _).alloc (by simp) _) _).setCell (by simp) _)).mono ?_; rintro e w' ⟨rfl, k, rfl⟩
    go_wp2_with fail
    refine bodyPost_ret (v := .tuple #[lineV A1 A2 false en false, .int .i64 0]) (by simp [results, Try.results15, go_sem, lineV]) rfl ⟨rfl, ?_⟩
    repeat (first | with_reducible exact hB | with_reducible refine Below.setCell ?_ (by simp) _ | with_reducible refine below_drewN ?_ _ | with_reducible refine Below.drew ?_ | with_reducible refine Below.alloc ?_ (by simp) _)
  · go_enter Try.func15, Try.ntmps15
    go_wp2_with (first | (go_at_call 41; refine (H _).mono ?_; rintro e w' ⟨rfl, rfl⟩))
    go_region
    go_wp2_with fail
    refine (H2 _ (((hB.alloc (Nat.le_refl _) _).alloc (by simp) _).drew)).mono ?_; rintro e w' ⟨rfl, k, rfl⟩
    go_wp2_with fail
    refine bodyPost_ret (v := .tuple #[lineV 0 A2 true en false, .int .i64 0]) (by simp [results, Try.results15, go_sem, lineV]) rfl ⟨rfl, ?_⟩
    repeat refine Below.setCell ?_ (by simp) _
    exact below_drewN ((hB.alloc (Nat.le_refl _) _).alloc (by simp) _) _
  · go_enter Try.func15, Try.ntmps15
    go_wp2_with (first | (go_at_call 41; refine (H _).mono ?_; rintro e w' ⟨rfl, rfl⟩))
    go_region
    go_wp2_with fail
    refine bodyPost_ret (v := .tuple #[lineV 0 0 false en true, .int .i64 0]) (by simp [results, Try.results15, go_sem, lineV]) rfl ⟨rfl, ?_⟩
    repeat refine Below.setCell ?_ (by simp) _
    exact ((hB.alloc (Nat.le_refl _) _).alloc (by simp) _).drew
  · go_enter Try.func15, Try.ntmps15
    go_wp2_with (first | (go_at_call 41; refine (H _).mono ?_; rintro e w' ⟨rfl, rfl⟩))
    go_region
    go_wp2_with fail
    refine bodyPost_ret (v := .tuple #[lineV 0 0 true en true, .int .i64 0]) (by simp [results, Try.results15, go_sem, lineV]) rfl ⟨rfl, ?_⟩
    repeat refine Below.setCell ?_ (by simp) _
    exact ((hB.alloc (Nat.le_refl _) _).alloc (by simp) _).drew

set_option maxHeartbeats 400000 in
theorem Accept_none (h : Net o w r p ps n) (hn : n.next = ps.length) :
    Calls Try.prog 19 #[ptr p] w fun e w' => e = .returned (.tuple #[.int .i64 0, .bool false]) ∧ ∃ k, w' = w.drewN k := by
  obtain ⟨cv, h⟩ := h
  have hc := h.blk.cell
  obtain ⟨a, cap, hv, _⟩ := h.row.slice
  subst hv
  rw [hn] at hc
  clear h hn
  unfold ptr at *
  go_enter Try.func19, Try.ntmps19
  go_wp2
  go_quiet (fail)
  go_wp2
  go_ret2
  exact ⟨rfl, _, rfl⟩

set_option maxHeartbeats 400000 in
theorem Accept_some (h : Net o w r p ps n) {b : Nat} {c : CI} (hb : ps[n.next]? = some b) (hi : n.conns[n.next]? = some c) :
    Calls Try.prog 19 #[ptr p] w (Did o w r p ps { n.put n.next c.accept_ with next := n.next + 1 } (.tuple #[.int .i64 n.next, .bool true])) := by
  obtain ⟨cv, h⟩ := h
  have hc := h.blk.cell
  have hlt : n.next < ps.length := (List.getElem?_eq_some_iff.1 hb).1
  have hne : ((n.next : Int) == (ps.length : Int)) = false := by simp; omega
  obtain ⟨g, cap, hv, _, hx, _⟩ := h.row.at (k := n.next) (by omega)
  subst hv
  have hx' : w.cell? ⟨g, n.next, none⟩ = some (ptr b) := by rw [hx]; simp [hb]
  obtain ⟨uv, dv, hC⟩ := h.conn _ _ _ hb hi
  have hbp : ¬ b = p := hC.blk.ne h.blk (by rw [List.append_assoc]; exact ne_app (by simp))
  have hpb : ¬ p = b := fun e => hbp e.symm
  have hc2 := hC.blk.cell
  have hf2 := hC.blk.free
  have hf1 := h.blk.free
  have hf := h.few
  have ⟨h1, h2⟩ := hC.accept_
  have hN := Net.upd ⟨_, h⟩ hb h2 h1
  have hst := h2.wide (List.prefix_append r [2, n.next])
  have hD : ∀ k, Did o w r p ps { n.put n.next c.accept_ with next := n.next + 1 } (.tuple #[.int .i64 n.next, .bool true]) (.returned (.tuple #[.int .i64 n.next, .bool true])) (((w.setCell ⟨b, 5, none⟩ (.bool true)).setCell ⟨p, 2, none⟩ (.int .i64 (n.next + 1))).drewN k) := by
    intro k
    obtain ⟨cv', hN⟩ := hN
    have hb2 := hN.blk
    have hX : Net o ((w.setCell ⟨b, 5, none⟩ (.bool true)).setCell ⟨p, 2, none⟩ (.int .i64 (n.next + 1))) r p ps { n.put n.next c.accept_ with next := n.next + 1 } := by
      refine ⟨cv', hb2.setCell 2 (.int .i64 (n.next + 1)), hN.row.setCell ⟨p, 2, none⟩ (.int .i64 (n.next + 1)) (hb2.far (t := [1]) (by simp)), hN.len, fun j q c' hq hc' => ?_, hlt, hN.few, hN.winle⟩
      obtain ⟨u, d, hX⟩ := hN.conn j q c' hq hc'
      have hqp : q ≠ p := hX.blk.ne hb2 (by rw [List.append_assoc]; exact ne_app (by simp))
      exact ⟨u, d, hX.blk.setOther _ _ hqp, hX.up.setCell _ _ (by rw [List.append_assoc]; exact hb2.far (t := [2, j] ++ [1]) (by simp)), hX.dn.setCell _ _ (by rw [List.append_assoc]; exact hb2.far (t := [2, j] ++ [2]) (by simp)), hX.rdle, hX.tkle, hX.upS, hX.dnS⟩
    exact ⟨rfl, o, hX.drewN k, (hst.setCell (show r <+: o p by rw [hb2.role]; exact List.prefix_append _ _) _).drewN k⟩
  generalize { n.put n.next c.accept_ with next := n.next + 1 } = N2 at *
  clear h hx hC h1 h2 hN hst hb hi
  unfold ptr at *
  go_enter Try.func19, Try.ntmps19
  go_wp2
  go_quiet (fail)
  go_wp2
  go_region
  go_wp2
  go_ret2
  exact hD _

/-! ### New, Connect -/
set_option maxHeartbeats 400000 in
theorem New_bad (w : World) (c : Int) (hc : c < 1 ∨ 1048576 < c) : Calls Try.prog 7 #[.int .i64 c] w fun e w' => e = .returned (.tuple #[.pointer none, .int .i64 1]) ∧ w' = w := by
  rcases hc with hc | hc
  · go_enter Try.func7, Try.ntmps7
    go_wp2
    go_ret2
    exact ⟨rfl, rfl⟩
  · have h1 : decide (c < 1) = false := by simp; omega
    go_enter Try.func7, Try.ntmps7
    go_wp2
    go_ret2
    exact ⟨rfl, rfl⟩

set_option maxHeartbeats 400000 in
theorem New_ok (o : Roles) (w : World) (r : List Nat) (c : Nat) (h1 : 1 ≤ c) (h2 : c ≤ 1048576) : Calls Try.prog 7 #[.int .i64 c] w fun e w' => ∃ p o', e = .returned (.tuple #[ptr p, .int .i64 0]) ∧ Net o' w' r p [] ⟨[], 0, c⟩ ∧ Stp r o w o' w' := by
  have hN : Net (o.put w.heap.size (r ++ [0])) (w.alloc (.cells #[.int .i64 c, .slice none 0 0, .int .i64 0] 55)) r w.heap.size [] ⟨[], 0, c⟩ :=
    ⟨.slice none 0 0, Blk.new o w (r ++ [0]) _ 55 _ rfl, Row.nil _ _ _ _ _, rfl, fun i b c hb => by simp at hb, Nat.le_refl _, by simp, h2⟩
  have hS : Stp r o w (o.put w.heap.size (r ++ [0])) (w.alloc (.cells #[.int .i64 c, .slice none 0 0, .int .i64 0] 55)) := (Stp.refl r o w).alloc _ _ rfl
  have h1' : decide ((c : Int) < 1) = false := by simp; omega
  unfold ptr
  have HN := Lib.hid hN
  have HS := Lib.hid hS
  clear hN hS
  go_enter Try.func7, Try.ntmps7
  go_wp2
  go_ret2
  exact ⟨_, _, rfl, HN.out, HS.out⟩

set_option maxHeartbeats 400000 in
theorem Connect_full (h : Net o w r p ps n) (hf : ps.length = 1024) : Calls Try.prog 8 #[ptr p] w fun e w' => e = .returned (.tuple #[.int .i64 0, .int .i64 60]) ∧ w' = w := by
  obtain ⟨cv, h⟩ := h
  have hc := h.blk.cell
  obtain ⟨a, cap, hv, _⟩ := h.row.slice
  subst hv
  rw [hf] at hc
  clear h hf
  unfold ptr at *
  go_enter Try.func8, Try.ntmps8
  go_wp2
  go_ret2
  exact ⟨rfl, rfl⟩

end
end Go.Proofs.Ytlgboamedjoidaa
