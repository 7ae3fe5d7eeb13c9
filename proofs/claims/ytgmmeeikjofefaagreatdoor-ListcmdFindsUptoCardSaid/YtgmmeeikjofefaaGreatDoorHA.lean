import Derived.Test.YtgmmeeikjofefaaGreatDoorGO
import Derived.Test.YtgmmeeikjofefaaGreatDoorGN
import Derived.Test.YtgmmeeikjofefaaGreatDoorGM
namespace Go.Proofs.YtgmmeeikjofefaaGreatDoor
open Go Go.RowKit
/-! The deque's Find and Remove; slices.Contains. -/
def placesN (v : List UInt8) (l : List (List UInt8)) (k : Nat) : List Nat := (List.range k).filter fun i => decide (l[i]? = some v)
theorem placesN_yes {v : List UInt8} {l : List (List UInt8)} {k : Nat} (h : l[k]? = some v) : placesN v l (k + 1) = placesN v l k ++ [k] := by
  unfold placesN; rw [List.range_succ, List.filter_append]; simp [h]
theorem placesN_no {v x : List UInt8} {l : List (List UInt8)} {k : Nat} (h : l[k]? = some x) (hx : x ≠ v) : placesN v l (k + 1) = placesN v l k := by
  unfold placesN; rw [List.range_succ, List.filter_append]; simp [h, hx]
theorem placesN_le (v : List UInt8) (l : List (List UInt8)) (k : Nat) : (placesN v l k).length ≤ k := by
  unfold placesN
  exact Nat.le_trans (List.length_filter_le _ _) (by simp)
def restL (v : List UInt8) (l : List (List UInt8)) : List (List UInt8) := l.filter fun x => decide (x ≠ v)
theorem restL_yes {v : List UInt8} {l : List (List UInt8)} {k : Nat} (h : l[k]? = some v) : restL v (l.take (k + 1)) = restL v (l.take k) := by
  unfold restL; rw [List.take_add_one, h, List.filter_append]; simp
theorem restL_no {v x : List UInt8} {l : List (List UInt8)} {k : Nat} (h : l[k]? = some x) (hx : x ≠ v) : restL v (l.take (k + 1)) = restL v (l.take k) ++ [x] := by
  unfold restL; rw [List.take_add_one, h, List.filter_append]; simp [hx]
theorem restL_len (v : List UInt8) (l : List (List UInt8)) : (restL v l).length ≤ l.length := List.length_filter_le _ _
theorem places_rest (v : List UInt8) (l : List (List UInt8)) : ∀ k, k ≤ l.length → (placesN v l k).length + (restL v (l.take k)).length = k
  | 0, _ => rfl
  | k + 1, hk => by
    have ih := places_rest v l k (by omega)
    obtain ⟨x, hx⟩ : ∃ x, l[k]? = some x := ⟨_, List.getElem?_eq_getElem (by omega)⟩
    by_cases hxv : x = v
    · subst hxv
      rw [placesN_yes hx, restL_yes hx]; simp; omega
    · rw [placesN_no hx hxv, restL_no hx hxv]; simp; omega
def ivs (l : List Nat) : List Value := l.map fun i : Nat => Value.int .i64 ((i : Nat) : Int)
theorem ivs_len (l : List Nat) : (ivs l).length = l.length := by unfold ivs; simp
theorem infoI : (Tryz.prog.info? 3).map (fun i => (i.zero, i.size, i.bytes)) = some (some (.int .i64 0), 1, 8) := by kernel_rfl
section
variable {o : Roles} {w : World} {r : List Nat} {d B : Nat} {l : List (List UInt8)}
def FfRel (w : World) (l : List (List UInt8)) (v : List UInt8) (out i : Value) (wr : World) : Prop :=
  ∃ k n o', k ≤ l.length ∧ i = .int .i64 ((k : Nat) : Int) ∧ n = (placesN v l k).length ∧ Row o' wr [9, 0] 3 1 out n (ivs (placesN v l k)) ∧ Stp [9] none0 w o' wr
def FfDid (w : World) (l : List (List UInt8)) (v : List UInt8) (e : Ending) (w' : World) : Prop :=
  ∃ v' n, e = .returned v' ∧ n = (placesN v l l.length).length ∧ Fresh w w' 3 1 v' n (ivs (placesN v l l.length))
set_option maxRecDepth 10000 in
set_option maxHeartbeats 2000000 in
theorem dfind_ok (h : DeqI o w r d B l) (hB : B ≤ 1099511627776) (v : List UInt8) : Calls Tryz.prog 85 #[.pointer (some ⟨d, 0, none⟩), txt v, .int .i64 1, .int .i64 0, .int .i64 0] w (FfDid w l v) := by
  have H := Lib.hid (dall_ok h)
  have hl : l.length ≤ 1099511627776 := by obtain ⟨_, _, h⟩ := h; have := h.few; omega
  obtain ⟨i0, hi0, hz0, hz1, hz2⟩ := info_parts infoI
  clear h
  unfold txt
  go_enter Tryz.func85, Tryz.ntmps85
  go_wp2_with fail
  refine H.out.mono ?_; rintro e w1 ⟨a, ca, k1, rfl, rfl, hv⟩
  have hv0 : Vw (fun b => o b = r ++ [0]) w (.slice a l.length ca) 1 l.length (l.map txt) := hv.stay (Nat.le_refl _) (fun _ _ _ => rfl)
  have HV := Lib.hid hv0
  have hat : FfRel w l v (.slice none 0 0) (.int .i64 0) (w.drewN k1) := ⟨0, 0, none0, Nat.zero_le _, rfl, rfl, Row.nil _ _ _ _ _, (Stp.refl [9] none0 w).drewN k1⟩
  clear hv hv0 H
  go_wp2_with fail
  go_loopw [12, 13, 33] (fun sk out i wr => sk = .int .i64 0 ∧ FfRel w l v out i wr) (fun _ _ i _ => l.length - (intOf i).toNat)
  case atStart => exact ⟨rfl, hat⟩
  case round =>
    obtain ⟨rfl, k, n, o1, hk, rfl, hn, hrow, hst⟩ := hrel
    clear hat
    obtain ⟨ao, co, rfl, _⟩ := id hrow.slice
    by_cases hkl : k < l.length
    · obtain ⟨x, hx⟩ : ∃ x, l[k]? = some x := ⟨_, List.getElem?_eq_getElem hkl⟩
      obtain ⟨bb, off, rfl, _, hcap, hg⟩ := vw_get (HV.out.below hst.below0) (by omega)
      have hcell : wr.cell? ⟨bb, off + k, none⟩ = some (.string ⟨x.toArray⟩) := hg k x hx
      have hkI : (0 : Int) ≤ k ∧ (k : Int) < l.length := by omega
      have hnk : n ≤ k := by rw [hn]; exact placesN_le v l k
      have HST := Lib.hid hst
      have HROW := Lib.hid hrow
      have HN := Lib.hid hn
      have HX := Lib.hid hx
      by_cases hxv : x = v
      · subst hxv
        have HR2 := Lib.hid (hrow.below ((Below.refl _ wr).alloc (Nat.le_refl _) (.cells #[.int .i64 (k : Int)] 3)))
        have HST2 := Lib.hid (hst.trans (Stp.ofBelow [9] o1 ((Below.refl _ wr).alloc (Nat.le_refl _) (.cells #[.int .i64 (k : Int)] 3))))
        have HSRC := Lib.hid ((vw_newK wr #[.int .i64 (k : Int)] 3 1 rfl).src (P := Tryz.prog) Tryz.underlying132 (by intro u hu; simp at hu; subst hu; rfl))
        clear hg hrow hst hx hn HROW HST
        go_wp2_with (
          at_builtin
          refine wpList_app _ rfl _ _ 132 132 rfl 3 i0 _ 1 8 Tryz.underlying132 hi0 hz0 hz1 hz2 rfl rfl HR2.out rfl HSRC.out (by unfold maxLen; omega) (by omega) ?_
          intro v' w5 o5 hrow5 hst5
          obtain ⟨a5, c5, rfl, _⟩ := id hrow5.slice
          have D := Lib.hid (show FfRel w l x (.slice a5 (n + 1) c5) (.int .i64 ((k + 1 : Nat) : Int)) w5 from
            ⟨k + 1, n + 1, o5, hkl, rfl, by rw [placesN_yes HX.out, HN.out]; simp, by rw [placesN_yes HX.out]; simpa [ivs] using hrow5, HST2.out.trans (hst5.wide (by decide))⟩)
          clear hrow5 hst5 HR2 HST2 HSRC)
        go_roundw
        case rel => exact ⟨rfl, D.out⟩
        case measure => simp [intOf]; omega
      · have hd : (x == v) = false := by simpa using hxv
        have hd2 : (x != v) = true := by simpa using hxv
        have D := Lib.hid (show FfRel w l v (.slice ao n co) (.int .i64 ((k + 1 : Nat) : Int)) wr from ⟨k + 1, n, o1, hkl, rfl, by rw [placesN_no hx hxv, hn], by rw [placesN_no hx hxv]; exact hrow, hst⟩)
        clear hg hrow hst hx hn HROW HST hxv
        go_wp2_with fail
        go_roundw
        case rel => exact ⟨rfl, D.out⟩
        case measure => simp [intOf]; omega
    · obtain rfl : k = l.length := by omega
      have D := Lib.hid (show FfDid w l v (.returned (.slice ao n co)) wr from ⟨_, n, rfl, hn, hrow.fresh2 (by decide) hst⟩)
      clear hrow hst hn
      go_wp2_with fail
      go_ret
      exact D.out
/-- How many of v go, and what is left. -/
def RmRel (o2 : Roles) (w2 : World) (r : List Nat) (l : List (List UInt8)) (v : List UInt8) (gone out i : Value) (wr : World) : Prop :=
  ∃ k n g o', k ≤ l.length ∧ i = .int .i64 ((k : Nat) : Int) ∧ gone = .int .i64 ((g : Nat) : Int) ∧ g = (placesN v l k).length ∧ n = (restL v (l.take k)).length ∧ Row o' wr (r ++ [0]) 9 1 out n ((restL v (l.take k)).map txt) ∧ Stp (r ++ [0]) o2 w2 o' wr
def RmDid (o : Roles) (w : World) (r : List Nat) (d B : Nat) (l : List (List UInt8)) (v : List UInt8) (e : Ending) (w' : World) : Prop :=
  e = .returned (.int .i64 ((placesN v l l.length).length : Nat)) ∧ ∃ o', DeqI o' w' r d B (restL v l) ∧ Stp r o w o' w'
theorem np4 {r : List Nat} : Apart (r ++ [0]) (r ++ [1]) := fun t hp => by
  rw [List.append_assoc, List.prefix_append_right_inj] at hp
  simp at hp
set_option maxRecDepth 10000 in
set_option maxHeartbeats 2000000 in
theorem dremove_ok (h : DeqI o w r d B l) (hB : B ≤ 1099511627776) (v : List UInt8) : Calls Tryz.prog 80 #[.pointer (some ⟨d, 0, none⟩), .int .i64 0, txt v] w (RmDid o w r d B l v) := by
  have H := Lib.hid (dall_ok h)
  have hl : l.length ≤ B := by obtain ⟨_, _, h⟩ := h; have := h.few; omega
  obtain ⟨i0, hi0, hz0, hz1, hz2⟩ := info_parts infoS
  have HD := Lib.hid h
  clear h
  unfold txt
  go_enter Tryz.func80, Tryz.ntmps80
  go_wp2_with fail
  refine H.out.mono ?_; rintro e w1 ⟨a, ca, k1, rfl, rfl, hv⟩
  have HC := Lib.hid (cloneS_ok (hv.drewN k1) (one_list l) (by omega))
  clear hv H
  go_wp2_with fail
  refine HC.out.mono ?_; rintro e w2 ⟨v2, rfl, hF⟩
  have hF0 : Fresh w w2 9 1 v2 l.length (l.map txt) := ⟨hF.own, (below_drewN (Below.refl _ w) k1).trans hF.below⟩
  obtain ⟨o2, hrow2, hs2⟩ := hF0.row o (r ++ [1])
  obtain ⟨a2, c2, rfl, _⟩ := id hrow2.slice
  obtain ⟨sv, junk, hq⟩ := HD.out
  have hblk2 : Blk o2 w2 r d #[sv, .int .i64 junk.length] 166 := by
    have := hq.blk.below hF0.below
    exact ⟨this.heap, by rw [(hs2 []).old d hq.blk.lt]; exact this.role⟩
  have HBLK := Lib.hid hblk2
  have HR2 := Lib.hid hrow2
  have HS2 := Lib.hid (hs2 r)
  have hat : RmRel o2 w2 r l v (.int .i64 0) (.slice none 0 0) (.int .i64 0) w2 := ⟨0, 0, 0, o2, Nat.zero_le _, rfl, rfl, rfl, rfl, Row.nil _ _ _ _ _, Stp.refl _ _ _⟩
  clear hF hF0 hrow2 hs2 hq hblk2 HC HD
  go_wp2_with fail
  go_loopw [9, 10, 41] (fun g out i wr => RmRel o2 w2 r l v g out i wr) (fun _ _ i _ => l.length - (intOf i).toNat)
  case atStart => exact hat
  case round =>
    obtain ⟨k, n, g, o3, hk, rfl, rfl, hg, hn, hrow, hst⟩ := hrel
    clear hat
    obtain ⟨ao, co, rfl, _⟩ := id hrow.slice
    have hgk : g ≤ k := by rw [hg]; exact placesN_le v l k
    have hnk : n ≤ k := by rw [hn]; exact Nat.le_trans (restL_len _ _) (by simp; omega)
    have HG := Lib.hid hg
    have HN := Lib.hid hn
    have HROW := Lib.hid hrow
    have HST := Lib.hid hst
    by_cases hkl : k < l.length
    · obtain ⟨x, hx⟩ : ∃ x, l[k]? = some x := ⟨_, List.getElem?_eq_getElem hkl⟩
      obtain ⟨bb, off, rfl, _, hcap, hgt⟩ := vw_get (HR2.out.keep hst np4.not).vw (by omega)
      have hcell : wr.cell? ⟨bb, off + k, none⟩ = some (.string ⟨x.toArray⟩) := hgt k x hx
      have hkI : (0 : Int) ≤ k ∧ (k : Int) < l.length ∧ (g : Int) < l.length := by omega
      have HX := Lib.hid hx
      by_cases hxv : x = v
      · subst hxv
        have D := Lib.hid (show RmRel o2 w2 r l x (.int .i64 ((g + 1 : Nat) : Int)) (.slice ao n co) (.int .i64 ((k + 1 : Nat) : Int)) wr from
          ⟨k + 1, n, g + 1, o3, hkl, rfl, rfl, by rw [placesN_yes hx, hg]; simp, by rw [restL_yes hx, hn], by rw [restL_yes hx]; exact hrow, hst⟩)
        clear hgt hrow hst hx hg hn HROW HST
        go_wp2_with fail
        go_roundw
        case rel => exact D.out
        case measure => simp [intOf]; omega
      · have hd : (x == v) = false := by simpa using hxv
        have hd2 : (x != v) = true := by simpa using hxv
        have HR3 := Lib.hid (hrow.below ((Below.refl _ wr).alloc (Nat.le_refl _) (.cells #[txt x] 9)))
        have HST3 := Lib.hid (hst.trans (Stp.ofBelow (r ++ [0]) o3 ((Below.refl _ wr).alloc (Nat.le_refl _) (.cells #[txt x] 9))))
        have HSRC := Lib.hid ((vw_new1 wr x 9).src (P := Tryz.prog) Tryz.underlying22 (one_list [x]))
        clear hgt hrow hst hx hg hn HROW HST
        unfold txt at HR3 HST3 HSRC
        have hm1 : n + 1 ≤ maxLen := by unfold maxLen; omega
        have hm2 : (n + 1) * 16 ≤ 140737488355328 := by omega
        go_wp2_with (
          at_builtin
          refine wpList_app _ rfl _ _ 22 22 rfl 9 i0 _ 1 16 Tryz.underlying22 hi0 hz0 hz1 hz2 rfl rfl HR3.out rfl HSRC.out hm1 hm2 ?_
          intro v' w5 o5 hrow5 hst5
          obtain ⟨a5, c5, rfl, _⟩ := id hrow5.slice
          have e1 : n + 1 = (restL v (l.take (k + 1))).length := by rw [restL_no HX.out hxv, HN.out]; simp
          have e2 : Row o5 w5 (r ++ [0]) 9 1 (.slice a5 (n + 1) c5) (n + 1) ((restL v (l.take (k + 1))).map txt) := by rw [restL_no HX.out hxv, List.map_append]; exact hrow5
          have e3 : g = (placesN v l (k + 1)).length := by rw [placesN_no HX.out hxv, HG.out]
          have D := Lib.hid (show RmRel o2 w2 r l v (.int .i64 ((g : Nat) : Int)) (.slice a5 (n + 1) c5) (.int .i64 ((k + 1 : Nat) : Int)) w5 from
            ⟨k + 1, n + 1, g, o5, hkl, rfl, rfl, e3, e1, e2, HST3.out.trans hst5⟩)
          clear hrow5 hst5 HR3 HST3 HSRC e1 e2 e3 hm1 hm2)
        go_roundw
        case rel => exact D.out
        case measure => simp [intOf]; omega
    · obtain rfl : k = l.length := by omega
      rw [List.take_length] at hrow hn
      have hb := HBLK.out.keep hst np1
      have hbc := hb.cell
      have hbf := hb.free
      have D := Lib.hid (show RmDid o w r d B l v (.returned (.int .i64 ((g : Nat) : Int))) ((wr.setCell ⟨d, 0, none⟩ (.slice ao n co)).setCell ⟨d, 1, none⟩ (.int .i64 0)) from by
        refine ⟨by rw [hg], o3, ⟨.slice ao n co, [], ?_, ?_, by simp; omega⟩, ?_⟩
        · have := (hb.setCell 0 (.slice ao n co)).setCell 1 (.int .i64 0)
          simpa using this
        · have hro : o3 d ≠ r ++ [0] := by rw [hb.role]; exact np2.symm
          have := (hrow.setCell ⟨d, 0, none⟩ (.slice ao n co) hro).setCell ⟨d, 1, none⟩ (.int .i64 0) hro
          rw [show ([] : List (List UInt8)).length + (restL v l).length = n by rw [hn]; simp]
          simpa using this
        · refine Stp.setCell (Stp.setCell (HS2.out.trans (hst.wide (List.prefix_append _ _))) ?_ _) ?_ _
          · show r <+: o3 d; rw [hb.role]; exact List.prefix_refl _
          · show r <+: o3 d; rw [hb.role]; exact List.prefix_refl _)
      clear hrow hst hg hn hb HROW HST HG HN HR2 HBLK HS2
      go_wp2_with fail
      go_ret
      exact D.out
end
/-- slices.Contains. -/
def HasDid (w : World) (ws : List (List UInt8)) (x : List UInt8) (e : Ending) (w' : World) : Prop := e = .returned (.bool (decide (x ∈ ws))) ∧ w' = w
set_option maxRecDepth 10000 in
set_option maxHeartbeats 2000000 in
theorem hasS_ok {A : Nat → Prop} {w : World} {v : Value} {n : Nat} {ws : List (List UInt8)} (h : Vw A w v 1 n (ws.map txt)) (hn : n ≤ 1099511627776) (x : List UInt8) : Calls Tryz.prog 84 #[v, txt x] w (HasDid w ws x) := by
  have hl : n = ws.length := by have := h.len; simpa using this.symm
  obtain ⟨a, cap, rfl, _⟩ := id h.slice
  have HI : Calls Tryz.prog 131 #[.slice a n cap, txt x] w fun e w' => ∃ i : Int, e = .returned (.int .i64 i) ∧ decide (0 ≤ i) = decide (x ∈ ws) ∧ w' = w := by
    have HV := Lib.hid h
    clear h
    unfold txt
    go_enter Tryz.func131, Tryz.ntmps131
    go_wp2_with fail
    go_loopw [8] (fun i wr => wr = w ∧ ∃ k : Nat, k ≤ n ∧ i = .int .i64 (k : Int) ∧ ∀ j y, j < k → ws[j]? = some y → y ≠ x) (fun i _ => n - (intOf i).toNat)
    case atStart => exact ⟨rfl, 0, Nat.zero_le _, rfl, fun j y hj => absurd hj (Nat.not_lt_zero _)⟩
    case round =>
      obtain ⟨rfl, k, hk, rfl, hno⟩ := hrel
      have HNO := Lib.hid hno
      clear hno
      by_cases hkl : k < n
      · obtain ⟨y, hy⟩ : ∃ y, ws[k]? = some y := ⟨_, List.getElem?_eq_getElem (by omega)⟩
        obtain ⟨bb, off, rfl, _, hcap, hgt⟩ := vw_get HV.out (by omega)
        have hcell : wr.cell? ⟨bb, off + k, none⟩ = some (.string ⟨y.toArray⟩) := hgt k y hy
        have hkI : (0 : Int) ≤ k ∧ (k : Int) < n := by omega
        have HY := Lib.hid hy
        clear hgt hy
        by_cases hyx : x = y
        · subst hyx
          go_wp2_with fail
          go_ret
          exact ⟨_, rfl, by simp [List.mem_of_getElem? HY.out], rfl⟩
        · have hd : (x == y) = false := by simpa using hyx
          go_wp2_with fail
          go_roundw
          case rel => exact ⟨trivial, k + 1, hkl, by go_num, fun j z hj hz => by
            rcases Nat.lt_or_ge j k with h | h
            · exact HNO.out j z h hz
            · obtain rfl : j = k := by omega
              rw [HY.out] at hz
              cases hz
              exact fun e => hyx e.symm⟩
          case measure => simp [intOf]; omega
      · have hm : x ∉ ws := fun hx => by
          obtain ⟨j, hj, e⟩ := List.mem_iff_getElem.1 hx
          exact HNO.out j x (by omega) (by rw [List.getElem?_eq_getElem hj, e]) rfl
        have HM := Lib.hid hm
        clear hm
        go_wp2_with fail
        go_ret
        exact ⟨_, rfl, by simp [HM.out], rfl⟩
  have HH := Lib.hid HI
  clear HI h hl
  unfold txt at *
  go_enter Tryz.func84, Tryz.ntmps84
  go_wp2_with fail
  refine HH.out.mono ?_; rintro e w1 ⟨i, rfl, hi, rfl⟩
  go_wp2_with fail
  go_ret
  exact ⟨by rw [← hi]; rfl, rfl⟩
end Go.Proofs.YtgmmeeikjofefaaGreatDoor
namespace Go.Proofs.YtgmmeeikjofefaaGreatDoor
open Go Go.RowKit
/-! Requests that only ask: nothing that was there turns. -/
def RunB (w : World) (r : RP) (e : Ending) (w' : World) : Prop :=
  ∃ v, e = .returned (.tuple #[repV r.kind r.text r.n v, .bool true]) ∧ Vw (fun b => w.heap.size ≤ b) w' v 4 r.list.length (rfsC r.list) ∧ Below w.heap.size w w'
/-- What a command's function tells, called over a request of its own; it writes nothing that was there. -/
def Tells (F : FuncId) (w : World) (q : List Nat) (p : Nat) (S : SP) (c : Cnt) (nm : List UInt8) (args : List (List UInt8)) (r : RP) : Prop :=
  ∀ (o1 : Roles) (w1 : World) (cb m : Nat) (sv : Value), SpJ o1 w1 q p S c → ¬ q <+: [m] → Below w.heap.size w w1 → Blk o1 w1 [m] cb (callC p 0 nm sv) 79 → Vw (Old w1) w1 sv 1 args.length (args.map txt) →
    Calls Tryz.prog F #[.pointer (some ⟨cb, 0, none⟩)] w1 (RepB w1 r)
section
variable {o : Roles} {w : World} {q : List Nat} {p : Nat} {c : Cnt} {S : SP}
set_option maxRecDepth 10000 in
set_option maxHeartbeats 20000000 in
theorem lRun_ro (h : SpJ o w q p S c) (hq : q ≠ []) {nm low : List UInt8} {args : List (List UInt8)} {sv : Value} (hv : Vw (Old w) w sv 1 (args.length + 1) ((nm :: args).map txt)) (hlow : lowL nm = low) (hn : nm.length ≤ 1099511627776) (hl : args.length + 1 ≤ 1099511627776) (hne : 0 < args.length)
    (hft : Fits low (args.length + 1)) {F : FuncId} (hg : (F = 39 ∧ (low = lrangeB ∨ low = lindexB)) ∨ (F = 41 ∧ low = lposB)) {r : RP} (hs : Tells F w q p S c low args r) :
    Calls Tryz.prog 21 #[.pointer (some ⟨p, 0, none⟩), .int .i64 0, sv] w (RunB w r) := by
  obtain ⟨o1, m, hbg, hj⟩ := begin_roles h hq
  obtain ⟨s, hsp, hsa, hsb⟩ := hft
  obtain ⟨b, off, cap, rfl, hcap, hbl, hk⟩ := vw_head1 hv
  have hbl : b < w.heap.size := hbl
  obtain ⟨i0, hi0, hz0, hz1, hz2⟩ := info_parts infoS
  have hsl : ∀ W, (Instr.slice 22 (.slice (some ⟨b, off, none⟩) (args.length + 1) cap) (some (.int .i64 1)) (some (.int .i64 ((args.length + 1 : Nat) : Int))) (some (.int .i64 ((args.length + 1 : Nat) : Int)))).run Tryz.prog W = .ok (.slice (some ⟨b, off + 1, none⟩) args.length args.length) W := fun W => by
    generalize hN : args.length + 1 = N at *
    simp [Instr.slice, run_underlying Tryz.underlying22, Instr.sliceBounds, Instr.sliceBound, asIntOf, sizeOf, typeInfo, hi0, hz1]
    rw [if_pos hcap, if_pos (by omega), if_neg (by omega)]
    rw [show N - 1 = args.length by omega]
    rfl
  have HCK := Lib.hid (check_ok (hv.below hbg.res.2) hn (by rw [hlow]; exact hsp) hsa hl hsb)
  have HLO := Lib.hid (fun W => lower_ok nm W hn)
  have HV := Lib.hid (vw_tail3 hv)
  have HBG := Lib.hid hbg
  have HJ := Lib.hid hj
  have HS := Lib.hid hs
  have HB1 := Lib.hid hbg.res.2
  have HR1 := Lib.hid hbg.res.1
  have HG := Lib.hid hg
  rw [hlow] at HLO
  clear h hbg hj hs hv hsp hsa hsb hg hlow
  unfold txt at HLO
  have hn2 : 1 < args.length + 1 := by omega
  have hn3 : ((args.length + 1 : Nat) : Int) = ((args.length + 1 : Nat) : Int) := rfl
  generalize args.length + 1 = N at *
  clear hn3
  have hn1 : 0 < N := by omega
  go_enter Tryz.func21, Tryz.ntmps21
  go_wp2_with fail
  refine HCK.out.mono ?_; rintro e w2 ⟨rfl, hB2⟩
  have HB2 := Lib.hid hB2
  have hB02 := HB1.out.trans (hB2.mono HB1.out.size)
  have hk2 : w2.cell? ⟨b, off, none⟩ = some (.string ⟨nm.toArray⟩) := by rw [(bcell hB02).1 _ _ hbl]; exact hk
  clear hB2 hk hB02 HCK
  go_upto_region 3 with fail
  go_cut [8] from 9 to 32 (fun s8 wx => RunR o1 w m p low b off args.length s8 wx)
  case first =>
    go_region_with (
      go_at_call 35
      (with_reducible refine (HLO.out _).mono ?_)
      rintro e w3 ⟨rfl, hB3⟩
      have hB03 := HB2.out.trans (((Below.refl _ w2).drew.trans hB3).mono HB2.out.size)
      have HB3 := Lib.hid hB03
      clear hB3 hB03)
    all_goals (
      have D : RunR o1 w m p low b off args.length (.pointer (some ⟨w3.heap.size, 0, none⟩)) (w3.alloc (.cells (callC p 0 low (.slice (some ⟨b, off + 1, none⟩) args.length args.length)) 79)) :=
        ⟨_, rfl, HB3.out.alloc HB3.out.size _, heap_alloc_new _ _, HBG.out.new _ (by have := HB3.out.size; rw [World.size_alloc] at this; omega)⟩
      have HD := Lib.hid D
      clear D HB3 HLO HV HBG HJ HS HB1 HB2 HR1 HG hsl hk2
      rw [show (max (0 : Int) (min 0 9007199254740992)) = 0 from by decide]
      go_wp2_with fail
      go_meet
      exact HD.out)
  case rest =>
    obtain ⟨g, rfl, hB4, hcb⟩ := hcut
    have hB4 := hB4
    have hr4 := HR1.out.below hB4
    have hB4 := HB1.out.trans (hB4.mono HB1.out.size)
    have hv4 := (HV.out.below hB4).imp (B := Old wc) (fun b hb => Nat.lt_of_lt_of_le hb hB4.size)
    have HC := Lib.hid (HS.out o1 _ g (m + 2) _ (HJ.out.below hB4) (HBG.out.aq 2).not hB4 hcb hv4)
    have hcc := hcb.cell
    have HB4 := Lib.hid hB4
    have HR4 := Lib.hid hr4
    clear hv4 hB4 hr4 hcb hsl hk2 HLO HV HS HB2 HR1 HBG HJ
    obtain ⟨kind, text, rn, list⟩ := r
    unfold RepB at HC
    dsimp only at HC
    rcases HG.out with ⟨rfl, rfl | rfl⟩ | ⟨rfl, rfl⟩ <;> (
      clear HG
      go_wp2_with fail
      refine HC.out.mono ?_
      rintro e w5 ⟨v, rfl, hv5, hB5⟩
      obtain ⟨a5, cap5, rfl, _⟩ := id hv5.slice
      have hr5 := HR4.out.below hB5
      have hrc := hr5.cell
      have hrf := hr5.free
      have HV5 := Lib.hid hv5
      have hsz : w.heap.size < wc.heap.size := HR4.out.lt
      have HSZ := Lib.hid hsz
      have HB5 := Lib.hid (HB4.out.trans (hB5.mono HB4.out.size))
      clear hv5 hB5 hr5 hsz HC HR4 HB4 hcc
      go_wp2_with fail
      refine bodyPost_ret (v := .tuple #[repV kind text rn (.slice a5 list.length cap5), .bool true]) (by simp [results, Tryz.results21, go_sem, hrc]) rfl ⟨_, rfl, vw_four HV5.out HSZ.out, below_four HB5.out⟩)
set_option maxRecDepth 10000 in
set_option maxHeartbeats 4000000 in
theorem lawrun_ro (h : SpJ o w q p S c) (hq : q ≠ []) {nm low : List UInt8} {args : List (List UInt8)} {sv : Value} (hv : Vw (Old w) w sv 1 (args.length + 1) ((nm :: args).map txt)) (hlow : lowL nm = low) (hn : nm.length ≤ 1099511627776) (hl : args.length + 1 ≤ 1099511627776) (hne : 0 < args.length)
    (hft : Fits low (args.length + 1)) {F : FuncId} (hg : (F = 39 ∧ (low = lrangeB ∨ low = lindexB)) ∨ (F = 41 ∧ low = lposB)) {r : RP} (hs : Tells F w q p S c low args r) :
    Calls Tryz.prog 13 #[.pointer (some ⟨p, 0, none⟩), sv] w (RepB w r) := by
  have hR : Below w.heap.size w (w.alloc (.cells zRepC 29)) := (Below.refl _ _).alloc (Nat.le_refl _) _
  have hR1 : Blk none0 (w.alloc (.cells zRepC 29)) [] w.heap.size zRepC 29 := ⟨heap_alloc_new w _, rfl⟩
  obtain ⟨a0, cap, rfl, _⟩ := id hv.slice
  have HRN := Lib.hid (lRun_ro (h.below hR) hq ((hv.below hR).imp (fun b hb => Nat.lt_of_lt_of_le hb hR.size)) hlow hn hl hne hft hg (r := r)
    (fun o2 w2 cb m2 sv hj2 hm2 hB2 hcb hv2 => hs o2 w2 cb m2 sv hj2 hm2 (hR.trans (hB2.mono hR.size)) hcb hv2))
  have HR1 := Lib.hid hR1
  have HB1 := Lib.hid hR
  clear h hs hv hft hg hlow hR hR1
  obtain ⟨kind, text, n, list⟩ := r
  unfold RunB at HRN
  dsimp only at HRN
  go_enter Tryz.func13, Tryz.ntmps13
  go_wp2_with fail
  refine HRN.out.mono ?_; rintro e w2 ⟨v, rfl, hv, hB2⟩
  obtain ⟨a2, cap2, rfl, _⟩ := id hv.slice
  have hB3 : Below w2.heap.size w2 (w2.alloc (.cells #[.int .i64 (kind : Int), .string ⟨text.toArray⟩, .int .i64 n, .slice a2 list.length cap2] 29)) := (Below.refl _ _).alloc (Nat.le_refl _) _
  have hr2 := (HR1.out.below hB2).below hB3
  have hrc := hr2.cell
  have hrf := hr2.free
  have HV3 := Lib.hid (hv.below hB3)
  have HB3 := Lib.hid (HB1.out.trans ((hB2.trans (hB3.mono hB2.size)).mono HB1.out.size))
  clear hv hB2 hB3 hr2 HRN
  go_wp2_with fail
  exact bodyPost_ret (v := repV kind text n (.slice a2 list.length cap2)) (by simp [results, Tryz.results13, go_sem, hrc]) rfl ⟨_, rfl, vw_four HV3.out (by simp), below_four HB3.out⟩
end
end Go.Proofs.YtgmmeeikjofefaaGreatDoor
