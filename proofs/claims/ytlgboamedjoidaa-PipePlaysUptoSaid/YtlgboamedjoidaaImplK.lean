import Derived.Test.YtlgboamedjoidaaImplL
import Derived.Deep.RegionLaw
namespace Go.Proofs.Ytlgboamedjoidaa
open Go Go.RowKit
section
variable {o : Roles} {w : World} {r : List Nat} {p : Nat} {ps : List Nat} {n : NI}
theorem info56 : (Try.prog.info? 56).map (fun i => (i.zero, i.size, i.bytes)) = some (some (.pointer none), 1, 8) := by kernel_rfl

def freshC : CI := ⟨[], 0, [], 0, false, false, false, false⟩
/-- The world in which the new connection lies, and a row of its pointer alone. -/
def made (w : World) (win : Nat) : World :=
  ((w.alloc (.cells #[.slice none 0 0, .int .i64 0, .slice none 0 0, .int .i64 0, .int .i64 win, .bool false, .bool false, .bool false, .bool false] 65)).alloc (.cells #[.pointer (some ⟨w.heap.size, 0, none⟩)] 56)).drew
def madeR (o : Roles) (w : World) (r : List Nat) (k : Nat) : Roles := (o.put w.heap.size (r ++ [2, k] ++ [0])).put (w.heap.size + 1) []

theorem made_below (w : World) (win : Nat) : Below w.heap.size w (made w win) := (((Below.refl _ _).alloc (Nat.le_refl _) _).alloc (by simp) _).drew
theorem NetV.lays {cv : Value} (h : NetV o w r p ps n cv) : NetV (madeR o w r ps.length) (made w n.win) r p ps n cv := by
  have hr : ∀ b, b < w.heap.size → madeR o w r ps.length b = o b := fun b hb => by
    unfold madeR; rw [Roles.put_other (by omega), Roles.put_other (by omega)]
  have hB := made_below w n.win
  have hrow : ∀ {s e sz v m xs}, Row o w s e sz v m xs → Row (madeR o w r ps.length) (made w n.win) s e sz v m xs := fun h =>
    ⟨(h.below hB).own, fun g hg => by rw [hr g (h.lt g hg)]; exact h.role g hg⟩
  have hblk : ∀ {s b cs T}, Blk o w s b cs T → Blk (madeR o w r ps.length) (made w n.win) s b cs T := fun h =>
    ⟨(h.below hB).heap, by rw [hr _ h.lt]; exact h.role⟩
  exact ⟨hblk h.blk, hrow h.row, h.len, fun i b c hb hc => let ⟨u, d, hC⟩ := h.conn i b c hb hc; ⟨u, d, hblk hC.blk, hrow hC.up, hrow hC.dn, hC.rdle, hC.tkle, hC.upS, hC.dnS⟩, h.nextle, h.few, h.winle⟩
theorem made_conn (o : Roles) (w : World) (r : List Nat) (k win : Nat) : ConnV (madeR o w r k) (made w win) (r ++ [2, k]) w.heap.size win freshC (.slice none 0 0) (.slice none 0 0) := by
  refine ⟨⟨?_, ?_⟩, Row.nil _ _ _ _ _, Row.nil _ _ _ _ _, Nat.le_refl _, Nat.le_refl _, by simp [freshC], by simp [freshC]⟩
  · unfold made freshC
    show ((w.alloc _).alloc _).heap[w.heap.size]? = _
    rw [Below.heap_alloc _ _ _ (by simp), heap_alloc_new]
    rfl
  · unfold madeR; rw [Roles.put_other (by omega), Roles.put_same]
theorem made_stp (o : Roles) (w : World) (r : List Nat) (k win : Nat) : Stp r o w (madeR o w r k) (made w win) :=
  (((Stp.refl r o w).alloc _ _ rfl).alloc _ _ (by simp)).drew
theorem made_ptr (w : World) (win : Nat) : (made w win).heap[w.heap.size + 1]? = some (.cells #[.pointer (some ⟨w.heap.size, 0, none⟩)] 56) := by
  unfold made
  have := heap_alloc_new (w.alloc (.cells #[.slice none 0 0, .int .i64 0, .slice none 0 0, .int .i64 0, .int .i64 win, .bool false, .bool false, .bool false, .bool false] 65)) (.cells #[.pointer (some ⟨w.heap.size, 0, none⟩)] 56)
  rw [World.size_alloc] at this
  exact this

theorem NetV.grow {cv v' : Value} {b : Nat} {o' : Roles} {w' : World} (h : NetV o w r p ps n cv) (hC : Conn o w (r ++ [2, ps.length]) b n.win freshC) (st : Stp (r ++ [1]) o w o' w')
    (hr : Row o' w' (r ++ [1]) 56 1 v' (ps.length + 1) (ps.map ptr ++ [ptr b])) (hf : ps.length < 1024) :
    Net o' (w'.setCell ⟨p, 1, none⟩ v') r p (ps ++ [b]) ⟨n.conns ++ [freshC], n.next, n.win⟩ ∧ Stp r o w o' (w'.setCell ⟨p, 1, none⟩ v') := by
  have hb := h.blk.keep st (np_app (by simp))
  have hset : ∀ {i q c}, Conn o w (r ++ [2, i]) q n.win c → Conn o' (w'.setCell ⟨p, 1, none⟩ v') (r ++ [2, i]) q n.win c := fun {i q c} hX => by
    obtain ⟨u, d, hX⟩ := hX.keep st ((Apart.head (by decide) [] [i]).both r)
    have hqp : q ≠ p := hX.blk.ne hb (by rw [List.append_assoc]; exact ne_app (by simp))
    exact ⟨u, d, hX.blk.setOther _ _ hqp, hX.up.setCell _ _ (by rw [List.append_assoc]; exact hb.far (t := [2, i] ++ [1]) (by simp)), hX.dn.setCell _ _ (by rw [List.append_assoc]; exact hb.far (t := [2, i] ++ [2]) (by simp)), hX.rdle, hX.tkle, hX.upS, hX.dnS⟩
  refine ⟨⟨v', hb.setCell 1 v', ?_, ?_, fun i q c hq hc => ?_, ?_, ?_, h.winle⟩, ?_⟩
  · have := hr.setCell ⟨p, 1, none⟩ v' (hb.far (t := [1]) (by simp))
    simpa using this
  · simp [h.len]
  · by_cases hi : i < ps.length
    · rw [List.getElem?_append_left hi] at hq
      rw [List.getElem?_append_left (by rw [← h.len]; exact hi)] at hc
      exact hset (h.conn i q c hq hc)
    · have hi' : i = ps.length := by
        have := (List.getElem?_eq_some_iff.1 hq).1
        simp at this; omega
      subst hi'
      simp at hq
      rw [h.len] at hc
      simp at hc
      subst hq; subst hc
      exact hset hC
  · have := h.nextle; simp; omega
  · simp; omega
  · exact (st.wide (List.prefix_append _ _)).setCell (show r <+: o' p by rw [hb.role]; exact List.prefix_append _ _) _

set_option maxRecDepth 100000 in
set_option maxHeartbeats 1000000 in
theorem Connect_ok (h : Net o w r p ps n) (hf : ps.length < 1024) : Calls Try.prog 8 #[ptr p] w fun e w' => ∃ b o', e = .returned (.tuple #[.int .i64 ps.length, .int .i64 0]) ∧ Net o' w' r p (ps ++ [b]) ⟨n.conns ++ [freshC], n.next, n.win⟩ ∧ Stp r o w o' w' := by
  obtain ⟨i0, hi0, hz0, hz1, hz2⟩ := info_parts info56
  obtain ⟨cv, h⟩ := h
  have hc := h.blk.cell
  have hfr := h.blk.free
  have hlt := h.blk.lt
  have hM := h.lays
  obtain ⟨a, cap, hv, _⟩ := h.row.slice
  have hP : ∀ v' w' o', Stp (r ++ [1]) (madeR o w r ps.length) (made w n.win) o' w' → w'.cell? ⟨p, 1, none⟩ = some cv ∧ w'.frozen? ⟨p, 1, none⟩ = false ∧
      (Row o' w' (r ++ [1]) 56 1 v' (ps.length + 1) (ps.map ptr ++ [ptr w.heap.size]) → ∀ (e : Ending) k, e = .returned (.tuple #[.int .i64 ps.length, .int .i64 0]) → ∃ b o'', e = .returned (.tuple #[.int .i64 ps.length, .int .i64 0]) ∧ Net o'' ((w'.setCell ⟨p, 1, none⟩ v').drewN k) r p (ps ++ [b]) ⟨n.conns ++ [freshC], n.next, n.win⟩ ∧ Stp r o w o'' ((w'.setCell ⟨p, 1, none⟩ v').drewN k)) := fun v' w' o' st => by
    have hb := hM.blk.keep st (np_app (by simp))
    refine ⟨hb.cell 1, hb.free 1, fun hr e k he => ?_⟩
    have ⟨h1, h2⟩ := hM.grow ⟨_, _, made_conn o w r ps.length n.win⟩ st hr hf
    exact ⟨_, o', he, h1.drewN k, ((made_stp o w r ps.length n.win).trans h2).drewN k⟩
  have hrow := hM.row
  have hsrc : Src Try.prog 1 53 (.slice (some ⟨w.heap.size + 1, 0, none⟩) 1 1) 1 [ptr w.heap.size] (made w n.win) :=
    Src.ofSlice _ Try.underlying53 _ _ _ _ rfl (World.news_of_block (made_ptr w n.win)) (fun u hu => by simp [ptr] at hu; subst hu; rfl)
  have HP := Lib.hid hP
  have Hrow := Lib.hid hrow
  have Hsrc := Lib.hid hsrc
  clear hP hrow hsrc hM h
  subst hv
  unfold ptr at *
  go_enter Try.func8, Try.ntmps8
  go_wp2_with fail
  go_region_law (
    refine step_app (made w n.win) rfl (.tmp 16) (.tmp 24) 53 53 rfl 56 i0 (.pointer none) 1 8 Try.underlying53 hi0 hz0 hz1 hz2 rfl rfl Hrow.out rfl Hsrc.out (by unfold maxLen; omega) (by omega) ?_
    intro v' w' o' hr st
    obtain ⟨hc1, hf1, hD⟩ := HP.out v' w' o' st
    obtain ⟨a', cap', hv', _⟩ := hr.slice
    subst hv'
    have HD := Lib.hid (hD hr)
    clear hD st hr)
  all_goals
    go_wp2
    go_ret2
    exact HD.out _ 0 rfl
end
end Go.Proofs.Ytlgboamedjoidaa
