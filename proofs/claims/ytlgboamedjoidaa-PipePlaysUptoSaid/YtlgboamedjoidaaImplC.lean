import Derived.Test.YtlgboamedjoidaaImplQ
namespace Go.Proofs.Ytlgboamedjoidaa
open Go Go.RowKit

theorem ne_app {r s t : List Nat} (h : s ≠ t) : r ++ s ≠ r ++ t := fun e => h (List.append_cancel_left e)
theorem np_app {r s t : List Nat} (h : ¬ s <+: t) : ¬ r ++ s <+: r ++ t := fun e => h ((List.prefix_append_right_inj r).1 e)

theorem Blk.far {o : Roles} {w : World} {r s t : List Nat} {b : Nat} {cs : Array Value} {T : TypeId} (h : Blk o w (r ++ s) b cs T) (hst : s ≠ t) : o b ≠ r ++ t := by rw [h.role]; exact ne_app hst
section
variable {o o' : Roles} {w w' w1 : World} {r s : List Nat} {b win : Nat} {c : CI} {uv dv : Value}
theorem ConnV.keep (h : ConnV o w s b win c uv dv) (st : Stp r o w o' w') (ha : Apart r s) : ConnV o' w' s b win c uv dv :=
  ⟨h.blk.keep st (ha.more _).not, h.up.keep st (ha.more _).not, h.dn.keep st (ha.more _).not, h.rdle, h.tkle, h.upS, h.dnS⟩
theorem Conn.keep (h : Conn o w s b win c) (st : Stp r o w o' w') (ha : Apart r s) : Conn o' w' s b win c := let ⟨uv, dv, h⟩ := h; ⟨uv, dv, h.keep st ha⟩
theorem ConnV.drewN (h : ConnV o w s b win c uv dv) (k : Nat) : ConnV o (w.drewN k) s b win c uv dv := ⟨h.blk.drewN k, h.up.drewN k, h.dn.drewN k, h.rdle, h.tkle, h.upS, h.dnS⟩
theorem ConnV.inS (h : ConnV o w s b win c uv dv) : s <+: o b := by rw [h.blk.role]; exact List.prefix_append _ _
/-- A store into the connection's own block. -/
theorem ConnV.set (h : ConnV o w s b win c uv dv) (k : Nat) (v : Value) (hs : Stp r o' w1 o w) (hr : r <+: s) :
    Blk o (w.setCell ⟨b, k, none⟩ v) (s ++ [0]) b (#[uv, .int .i64 c.rd, dv, .int .i64 c.tk, .int .i64 win, .bool c.acc, .bool c.en, .bool c.cl, .bool c.cu].setIfInBounds k v) 65 ∧
    Row o (w.setCell ⟨b, k, none⟩ v) (s ++ [1]) 5 1 uv c.up.length (c.up.map bv) ∧ Row o (w.setCell ⟨b, k, none⟩ v) (s ++ [2]) 5 1 dv c.dn.length (c.dn.map bv) ∧ Stp r o' w1 o (w.setCell ⟨b, k, none⟩ v) :=
  ⟨h.blk.setCell k v, h.up.setCell _ _ (by rw [h.blk.role]; exact ne_app (by simp)), h.dn.setCell _ _ (by rw [h.blk.role]; exact ne_app (by simp)), hs.setCell (hr.trans h.inS) v⟩

def CI.end_ (c : CI) : CI := { c with en := true }
def CI.close_ (c : CI) : CI := { c with cl := true }
def CI.cut_ (c : CI) : CI := { c with cu := true }
def CI.accept_ (c : CI) : CI := { c with acc := true }
def CI.tk_ (c : CI) (k : Nat) : CI := { c with tk := c.tk + k }
def CI.rd_ (c : CI) (k : Nat) : CI := { c with rd := c.rd + k }
def CI.put_ (c : CI) (l : List UInt8) : CI := { c with up := c.up ++ l }
def CI.wr_ (c : CI) (l : List UInt8) : CI := { c with dn := c.dn ++ l }

theorem ConnV.end_ (h : ConnV o w s b win c uv dv) : Conn o (w.setCell ⟨b, 6, none⟩ (.bool true)) s b win c.end_ ∧ Stp s o w o (w.setCell ⟨b, 6, none⟩ (.bool true)) :=
  let ⟨h1, h2, h3, h4⟩ := h.set 6 (.bool true) (Stp.refl s o w) (List.prefix_refl s)
  ⟨⟨uv, dv, h1, h2, h3, h.rdle, h.tkle, h.upS, h.dnS⟩, h4⟩
theorem ConnV.close_ (h : ConnV o w s b win c uv dv) : Conn o (w.setCell ⟨b, 7, none⟩ (.bool true)) s b win c.close_ ∧ Stp s o w o (w.setCell ⟨b, 7, none⟩ (.bool true)) :=
  let ⟨h1, h2, h3, h4⟩ := h.set 7 (.bool true) (Stp.refl s o w) (List.prefix_refl s)
  ⟨⟨uv, dv, h1, h2, h3, h.rdle, h.tkle, h.upS, h.dnS⟩, h4⟩
theorem ConnV.cut_ (h : ConnV o w s b win c uv dv) : Conn o (w.setCell ⟨b, 8, none⟩ (.bool true)) s b win c.cut_ ∧ Stp s o w o (w.setCell ⟨b, 8, none⟩ (.bool true)) :=
  let ⟨h1, h2, h3, h4⟩ := h.set 8 (.bool true) (Stp.refl s o w) (List.prefix_refl s)
  ⟨⟨uv, dv, h1, h2, h3, h.rdle, h.tkle, h.upS, h.dnS⟩, h4⟩
theorem ConnV.accept_ (h : ConnV o w s b win c uv dv) : Conn o (w.setCell ⟨b, 5, none⟩ (.bool true)) s b win c.accept_ ∧ Stp s o w o (w.setCell ⟨b, 5, none⟩ (.bool true)) :=
  let ⟨h1, h2, h3, h4⟩ := h.set 5 (.bool true) (Stp.refl s o w) (List.prefix_refl s)
  ⟨⟨uv, dv, h1, h2, h3, h.rdle, h.tkle, h.upS, h.dnS⟩, h4⟩
theorem ConnV.tk_ (h : ConnV o w s b win c uv dv) (k : Nat) (hk : c.tk + k ≤ c.dn.length) : Conn o (w.setCell ⟨b, 3, none⟩ (.int .i64 ((c.tk + k : Nat) : Int))) s b win (c.tk_ k) ∧ Stp s o w o (w.setCell ⟨b, 3, none⟩ (.int .i64 ((c.tk + k : Nat) : Int))) :=
  let ⟨h1, h2, h3, h4⟩ := h.set 3 (.int .i64 ((c.tk + k : Nat) : Int)) (Stp.refl s o w) (List.prefix_refl s)
  ⟨⟨uv, dv, h1, h2, h3, h.rdle, hk, h.upS, h.dnS⟩, h4⟩
theorem ConnV.rd_ (h : ConnV o w s b win c uv dv) (k : Nat) (hk : c.rd + k ≤ c.up.length) : Conn o (w.setCell ⟨b, 1, none⟩ (.int .i64 ((c.rd + k : Nat) : Int))) s b win (c.rd_ k) ∧ Stp s o w o (w.setCell ⟨b, 1, none⟩ (.int .i64 ((c.rd + k : Nat) : Int))) :=
  let ⟨h1, h2, h3, h4⟩ := h.set 1 (.int .i64 ((c.rd + k : Nat) : Int)) (Stp.refl s o w) (List.prefix_refl s)
  ⟨⟨uv, dv, h1, h2, h3, hk, h.tkle, h.upS, h.dnS⟩, h4⟩
theorem ConnV.put_ (h : ConnV o w s b win c uv dv) (l : List UInt8) {uv' : Value} (st : Stp (s ++ [1]) o w o' w1) (hr : Row o' w1 (s ++ [1]) 5 1 uv' (c.up ++ l).length ((c.up ++ l).map bv)) (hl : (c.up ++ l).length ≤ 1099511627776) :
    Conn o' (w1.setCell ⟨b, 0, none⟩ uv') s b win (c.put_ l) ∧ Stp s o w o' (w1.setCell ⟨b, 0, none⟩ uv') := by
  have h1 := h.blk.keep st (np_app (by simp))
  have h2 := h.dn.keep st (np_app (by simp))
  refine ⟨⟨uv', dv, h1.setCell 0 uv', hr.setCell _ _ (by rw [h1.role]; exact ne_app (by simp)), h2.setCell _ _ (by rw [h1.role]; exact ne_app (by simp)), ?_, h.tkle, hl, h.dnS⟩, ?_⟩
  · have := h.rdle; simp only [CI.put_, List.length_append]; omega
  · exact (st.wide (List.prefix_append _ _)).setCell (by rw [h1.role]; exact List.prefix_append _ _) _
theorem ConnV.wr_ (h : ConnV o w s b win c uv dv) (l : List UInt8) {dv' : Value} (st : Stp (s ++ [2]) o w o' w1) (hr : Row o' w1 (s ++ [2]) 5 1 dv' (c.dn ++ l).length ((c.dn ++ l).map bv)) (hl : (c.dn ++ l).length ≤ 1099511627776) :
    Conn o' (w1.setCell ⟨b, 2, none⟩ dv') s b win (c.wr_ l) ∧ Stp s o w o' (w1.setCell ⟨b, 2, none⟩ dv') := by
  have h1 := h.blk.keep st (np_app (by simp))
  have h2 := h.up.keep st (np_app (by simp))
  refine ⟨⟨uv, dv', h1.setCell 2 dv', h2.setCell _ _ (by rw [h1.role]; exact ne_app (by simp)), hr.setCell _ _ (by rw [h1.role]; exact ne_app (by simp)), h.rdle, ?_, h.upS, hl⟩, ?_⟩
  · have := h.tkle; simp only [CI.wr_, List.length_append]; omega
  · exact (st.wide (List.prefix_append _ _)).setCell (by rw [h1.role]; exact List.prefix_append _ _) _
end

def NI.put (n : NI) (i : Nat) (c : CI) : NI := { n with conns := n.conns.set i c }

section
variable {o o' : Roles} {w w' : World} {r s : List Nat} {p : Nat} {ps : List Nat} {n : NI}
theorem Net.keep (h : Net o w s p ps n) (st : Stp r o w o' w') (ha : Apart r s) : Net o' w' s p ps n :=
  let ⟨cv, h⟩ := h
  ⟨cv, h.blk.keep st (ha.more _).not, h.row.keep st (ha.more _).not, h.len, fun i b c hb hc => (h.conn i b c hb hc).keep st (ha.more _), h.nextle, h.few, h.winle⟩
theorem Net.drewN (h : Net o w s p ps n) (k : Nat) : Net o (w.drewN k) s p ps n :=
  let ⟨cv, h⟩ := h
  ⟨cv, h.blk.drewN k, h.row.drewN k, h.len, fun i b c hb hc => let ⟨u, d, h⟩ := h.conn i b c hb hc; ⟨u, d, h.drewN k⟩, h.nextle, h.few, h.winle⟩
theorem ConnV.below {b win : Nat} {c : CI} {uv dv : Value} (h : ConnV o w s b win c uv dv) (hb : Below w.heap.size w w') : ConnV o w' s b win c uv dv := ⟨h.blk.below hb, h.up.below hb, h.dn.below hb, h.rdle, h.tkle, h.upS, h.dnS⟩
theorem Net.below (h : Net o w s p ps n) (hb : Below w.heap.size w w') : Net o w' s p ps n :=
  let ⟨cv, h⟩ := h
  ⟨cv, h.blk.below hb, h.row.below hb, h.len, fun i b c hB hc => let ⟨u, d, h⟩ := h.conn i b c hB hc; ⟨u, d, h.below hb⟩, h.nextle, h.few, h.winle⟩
theorem Net.upd (h : Net o w s p ps n) {i b : Nat} {c' : CI} (hb : ps[i]? = some b) (st : Stp (s ++ [2, i]) o w o' w') (hC : Conn o' w' (s ++ [2, i]) b n.win c') : Net o' w' s p ps (n.put i c') := by
  obtain ⟨cv, h⟩ := h
  refine ⟨cv, h.blk.keep st (np_app (by simp)), h.row.keep st (np_app (by simp)), by simpa [NI.put] using h.len, fun j b' c hb' hc => ?_, h.nextle, h.few, h.winle⟩
  simp only [NI.put, List.getElem?_set] at hc
  by_cases hj : i = j
  · subst hj
    rw [if_pos rfl] at hc
    split at hc
    · cases hc; rw [hb] at hb'; cases hb'; exact hC
    · cases hc
  · rw [if_neg hj] at hc
    exact (h.conn j b' c hb' hc).keep st (((Apart.head hj [] []).tail 2).both s)
theorem Net.at (h : Net o w s p ps n) {i : Nat} (hi : i < ps.length) : ∃ b c, ps[i]? = some b ∧ n.conns[i]? = some c := by
  obtain ⟨cv, h⟩ := h
  exact ⟨ps[i], n.conns[i]'(by rw [← h.len]; exact hi), by simp [hi], by simp⟩
end
theorem NI.put_same (n : NI) (i : Nat) (c : CI) (h : n.conns[i]? = some c) : n.put i c = n := by
  obtain ⟨hi, e⟩ := List.getElem?_eq_some_iff.1 h
  simp only [NI.put]
  rw [← e, List.set_getElem_self]

theorem pair_ok {b : Nat} {e : Int} (h : e = 0) : pairE b e = .tuple #[.pointer (some ⟨b, 0, none⟩), .int .i64 0] := by simp [pairE, h, ptr]
theorem pair_no {b : Nat} {e : Int} (h : e ≠ 0) : pairE b e = .tuple #[.pointer none, .int .i64 e] := by simp [pairE, h]
end Go.Proofs.Ytlgboamedjoidaa
