import Derived.Test.YtgmmeeikjofefaaGreatDoorGH
import Derived.Test.YtgmmeeikjofefaaGreatDoorGL
import Derived.Test.YtgmmeeikjofefaaGreatDoorGK
namespace Go.Proofs.YtgmmeeikjofefaaGreatDoor
open Go Go.RowKit
/-! The law's own small functions. -/
set_option maxRecDepth 10000 in
theorem lawnumber_ok (w : World) (t : List UInt8) (n : Int) (a : Option Addr) (ln cap : Nat) : Calls Tryz.prog 16 #[.agg #[.int .i64 3, .string ⟨t.toArray⟩, .int .i64 n, .slice a ln cap], .int .i64 n] w fun e w' => e = .returned (.bool true) ∧ Below w.heap.size w w' := by
  go_enter Tryz.func16, Tryz.ntmps16
  go_wp2_with fail
  go_ret
  exact ⟨rfl, (Below.refl _ _).alloc (Nat.le_refl _) _⟩
set_option maxRecDepth 10000 in
theorem lawbulk_ok (w : World) (t : List UInt8) (n : Int) (a : Option Addr) (ln cap : Nat) : Calls Tryz.prog 14 #[.agg #[.int .i64 4, .string ⟨t.toArray⟩, .int .i64 n, .slice a ln cap], txt t] w fun e w' => e = .returned (.bool true) ∧ Below w.heap.size w w' := by
  unfold txt
  go_enter Tryz.func14, Tryz.ntmps14
  go_wp2_with fail
  go_ret
  exact ⟨rfl, (Below.refl _ _).alloc (Nat.le_refl _) _⟩
theorem lawside_ok (w : World) (left : Bool) : Calls Tryz.prog 15 #[.bool left] w fun e w' => e = .returned (txt (if left then leftB else [82, 73, 71, 72, 84])) ∧ w' = w := by
  cases left <;> (
    go_enter Tryz.func15, Tryz.ntmps15
    go_wp2_with fail
    go_ret
    exact ⟨rfl, rfl⟩)
set_option maxRecDepth 10000 in
theorem lawshort_ok {A : Nat → Prop} {w : World} {v : Value} {l : List (List UInt8)} (hv : Vw A w v 1 l.length (l.map txt)) (hs : ∀ x ∈ l, x.length ≤ 1048576) (hn : l.length ≤ 1099511627776) :
    Calls Tryz.prog 12 #[v] w fun e w' => e = .returned (.bool true) ∧ w' = w := by
  obtain ⟨a, cap, rfl, hcap, _⟩ := id hv.slice
  have HV := Lib.hid hv
  have HS := Lib.hid hs
  clear hv hs
  go_enter Tryz.func12, Tryz.ntmps12
  go_wp2_with fail
  go_loopw [3] (fun i wr => ∃ k : Nat, k ≤ l.length ∧ i = .int .i64 (k : Int) ∧ wr = w) (fun i _ => l.length - (intOf i).toNat)
  case atStart => exact ⟨0, Nat.zero_le _, rfl, rfl⟩
  case round =>
    obtain ⟨k, hk, rfl, rfl⟩ := hrel
    by_cases hkl : k < l.length
    · obtain ⟨x, hx⟩ : ∃ x, l[k]? = some x := ⟨_, List.getElem?_eq_getElem hkl⟩
      obtain ⟨b, off, rfl, _, _, hg⟩ := vw_get HV.out (by omega)
      have hcell := hg k x hx
      have hkI : (0 : Int) ≤ k ∧ (k : Int) < l.length := by omega
      have hsx := HS.out x (List.mem_of_getElem? hx)
      clear hg hx
      go_wp2_with fail
      exact ⟨⟨k + 1, hkl, by simp, trivial⟩, by simp [intOf]; omega⟩
    · obtain rfl : k = l.length := by omega
      clear HS
      go_wp2_with fail
      go_ret
      exact ⟨rfl, rfl⟩
/-- A reply's rows. -/
theorem vw_rf {A : Nat → Prop} {w : World} {a : Option Addr} {n cap : Nat} {L : List Rf} (h : Vw A w (.slice a n cap) 4 n (rfsC L)) {k : Nat} {y : Rf} (hy : L[k]? = some y) : ∃ b off, a = some ⟨b, off, none⟩ ∧ n ≤ cap ∧ b < w.heap.size ∧
    w.cell? ⟨b, off + k * 4, none⟩ = some (.int .i64 (y.kind : Int)) ∧ w.cell? ⟨b, off + k * 4 + 1, none⟩ = some (.string ⟨y.text.toArray⟩) ∧ w.cell? ⟨b, off + k * 4 + 2, none⟩ = some (.int .i64 y.n) ∧ w.cell? ⟨b, off + k * 4 + 3, none⟩ = some (.slice none 0 0) := by
  have hlen : L.length = n := by have := h.len; rw [rfsC_len] at this; omega
  have hk : k < L.length := (List.getElem?_eq_some_iff.1 hy).1
  obtain ⟨⟨a', c', e, h1, h2, h3⟩, h4⟩ := h
  injection e with e1 e2 e3
  subst e1 e3
  rcases h3 with h3 | ⟨b, off, rfl, g5, g6, g7⟩
  · omega
  have hd : L = L.take k ++ y :: L.drop (k + 1) := by
    have e1 : L.drop k = y :: L.drop (k + 1) := by
      rw [List.drop_eq_getElem_cons hk]
      congr 1
      rw [List.getElem?_eq_getElem hk] at hy
      cases hy; rfl
    rw [← e1, List.take_append_drop]
  have hc : ∀ j u, (rfC y)[j]? = some u → w.cell? ⟨b, off + k * 4 + j, none⟩ = some u := by
    intro j u hj
    have hj4 : j < 4 := (List.getElem?_eq_some_iff.1 hj).1
    have := g7 (k * 4 + j) u (by
      rw [hd, rfsC_app, List.getElem?_append_right (by rw [rfsC_len, List.length_take]; omega)]
      rw [rfsC_len, List.length_take, Nat.min_eq_left (Nat.le_of_lt hk)]
      show (rfC y ++ rfsC (L.drop (k + 1)))[_]? = _
      rw [show k * 4 + j - k * 4 = j by omega, List.getElem?_append_left (by simpa [rfC] using hj4)]
      exact hj)
    rw [← Nat.add_assoc] at this; exact this
  exact ⟨b, off, rfl, h1, g5, by simpa using hc 0 _ rfl, hc 1 _ rfl, hc 2 _ rfl, hc 3 _ rfl⟩
def BksRel (w : World) (a : Option Addr) (n cap : Nat) (i : Value) (wr : World) : Prop :=
  ∃ k : Nat, k ≤ n ∧ i = .int .i64 (k : Int) ∧ Below w.heap.size w wr ∧ Blk none0 wr [] w.heap.size #[.int .i64 6, .string ⟨#[]⟩, .int .i64 0, .slice a n cap] 29
set_option maxRecDepth 10000 in
set_option maxHeartbeats 4000000 in
theorem lawbulks_ok {A B : Nat → Prop} {w : World} {a : Option Addr} {cap : Nat} {v : Value} {l : List (List UInt8)} (hr : Vw B w (.slice a l.length cap) 4 l.length (rfsC (l.map bulkF))) (hv : Vw A w v 1 l.length (l.map txt)) (hn : l.length ≤ 1099511627776) :
    Calls Tryz.prog 17 #[.agg #[.int .i64 6, .string ⟨#[]⟩, .int .i64 0, .slice a l.length cap], v] w fun e w' => e = .returned (.bool true) ∧ Below w.heap.size w w' := by
  obtain ⟨a1, cap1, rfl, hcap1, _⟩ := id hv.slice
  have HV := Lib.hid hv
  have HR := Lib.hid hr
  clear hv hr
  have hat : BksRel w a l.length cap (.int .i64 0) (w.alloc (.cells #[.int .i64 6, .string ⟨#[]⟩, .int .i64 0, .slice a l.length cap] 29)) :=
    ⟨0, Nat.zero_le _, rfl, (Below.refl _ _).alloc (Nat.le_refl _) _, heap_alloc_new w _, rfl⟩
  go_enter Tryz.func17, Tryz.ntmps17
  go_wp2_with fail
  go_loopw [5] (fun i wr => BksRel w a l.length cap i wr) (fun i _ => l.length - (intOf i).toNat)
  case atStart => exact hat
  case round =>
    obtain ⟨k, hk, rfl, hB, hblk⟩ := hrel
    clear hat
    by_cases hkl : k < l.length
    · obtain ⟨x, hx⟩ : ∃ x, l[k]? = some x := ⟨_, List.getElem?_eq_getElem hkl⟩
      obtain ⟨b, off, rfl, _, hbl, hg⟩ := vw_get HV.out (by omega)
      have hcell0 := hg k x hx
      obtain ⟨b2, off2, rfl, hcap2, hbl2, c0, c1, c2, c3⟩ := vw_rf HR.out (k := k) (y := bulkF x) (by rw [List.getElem?_map, hx]; rfl)
      have hlb : b < w.heap.size := World.block_lt_of_cell? _ _ hcell0
      have hcell : wr.cell? ⟨b, off + k, none⟩ = some (.string ⟨x.toArray⟩) := by rw [(bcell hB).1 _ _ hlb]; exact hcell0
      have d0 : wr.cell? ⟨b2, off2 + k * 4, none⟩ = some (.int .i64 4) := by rw [(bcell hB).1 _ _ hbl2]; exact c0
      have d1 : wr.cell? ⟨b2, off2 + k * 4 + 1, none⟩ = some (.string ⟨x.toArray⟩) := by rw [(bcell hB).1 _ _ hbl2]; exact c1
      have d2 : wr.cell? ⟨b2, off2 + k * 4 + 2, none⟩ = some (.int .i64 0) := by rw [(bcell hB).1 _ _ hbl2]; exact c2
      have d3 : wr.cell? ⟨b2, off2 + k * 4 + 3, none⟩ = some (.slice none 0 0) := by rw [(bcell hB).1 _ _ hbl2]; exact c3
      have hkI : (0 : Int) ≤ k ∧ (k : Int) < l.length := by omega
      have hld := hblk.cell
      have HB := Lib.hid hB
      have HBLK := Lib.hid hblk
      have HBU := Lib.hid (fun W => lawbulk_ok W x 0 none 0 0)
      unfold txt at HBU
      clear hg hx hcell0 c0 c1 c2 c3 hB hblk HV HR
      go_wp2_with fail
      go_region_with (
        go_at_call 14
        (with_reducible refine (HBU.out _).mono ?_)
        rintro e w3 ⟨rfl, hB3⟩
        have hB3' : Below wr.heap.size wr w3 := (Below.refl _ _).drew.trans hB3
        have D := Lib.hid (show BksRel w (some ⟨b2, off2, none⟩) l.length cap (.int .i64 ((k + 1 : Nat) : Int)) w3 from ⟨k + 1, hkl, rfl, HB.out.trans (hB3'.mono HB.out.size), HBLK.out.below hB3'⟩)
        clear hB3 hB3')
      all_goals (
        clear HB HBLK HBU hcell d0 d1 d2 d3 hld
        go_wp2_with fail
        go_roundw
        case rel => exact D.out
        case measure => simp [intOf]; omega)
    · obtain rfl : k = l.length := by omega
      have HB := Lib.hid hB
      clear HV HR hB hblk
      go_wp2_with fail
      go_ret
      exact ⟨rfl, HB.out⟩
end Go.Proofs.YtgmmeeikjofefaaGreatDoor
namespace Go.Proofs.YtgmmeeikjofefaaGreatDoor
open Go Go.RowKit
/-! The law's run. -/
section
variable {o : Roles} {w : World} {q : List Nat} {p : Nat} {c : Cnt} {S : SP}
set_option maxRecDepth 10000 in
set_option maxHeartbeats 4000000 in
theorem lawrun_ok (h : SpJ o w q p S c) (hq : q ≠ []) {nm low : List UInt8} {args : List (List UInt8)} {sv : Value} (hv : Vw (Old w) w sv 1 (args.length + 1) ((nm :: args).map txt)) (hlow : lowL nm = low) (hn : nm.length ≤ 1099511627776) (hl : args.length + 1 ≤ 1099511627776) (hne : 0 < args.length)
    (hft : Fits low (args.length + 1)) {F : FuncId} (hg : Goes low F) {r : RP} {K : SP → Prop} (hs : Serves F w q p S c low args r K) :
    Calls Tryz.prog 13 #[.pointer (some ⟨p, 0, none⟩), sv] w (RepL o w q p c r K) := by
  obtain ⟨o1, m, hbg, hj⟩ := begin_roles h hq
  obtain ⟨a0, cap, rfl, _⟩ := id hv.slice
  have HRN := Lib.hid (lRun_ok (hj.below hbg.res.2) hq ((hv.below hbg.res.2).imp (fun b hb => Nat.lt_of_lt_of_le hb hbg.res.2.size)) hlow hn hl hne hft hg (r := r) (K := K)
    (fun o2 w2 cb m2 sv hj2 hm2 hB2 hcb hv2 => hs o2 w2 cb m2 sv hj2 hm2 (hbg.res.2.trans (hB2.mono hbg.res.2.size)) hcb hv2))
  have HBG := Lib.hid hbg
  have HR1 := Lib.hid hbg.res.1
  have HB1 := Lib.hid hbg.res.2
  clear h hbg hj hs hv hft hg hlow
  obtain ⟨kind, text, n, list⟩ := r
  unfold RunDid at HRN
  dsimp only at HRN
  go_enter Tryz.func13, Tryz.ntmps13
  go_wp2_with fail
  refine HRN.out.mono ?_; rintro e w2 ⟨v, rfl, hv, o2, S2, c2, hj2, hK2, hc2, hs2⟩
  obtain ⟨a2, cap2, rfl, _⟩ := id hv.slice
  have hB3 : Below w2.heap.size w2 (w2.alloc (.cells #[.int .i64 (kind : Int), .string ⟨text.toArray⟩, .int .i64 n, .slice a2 list.length cap2] 29)) := (Below.refl _ _).alloc (Nat.le_refl _) _
  have hr2 := (HR1.out.keep hs2 (HBG.out.aq 2).not).below hB3
  have hrc := hr2.cell
  have hrf := hr2.free
  have HJ3 := Lib.hid (hj2.below hB3)
  have HR3 := Lib.hid hr2
  have HV3 := Lib.hid (hv.below hB3)
  have HK := Lib.hid hK2
  have HC := Lib.hid hc2
  have HS3 := Lib.hid ((HBG.out.st q).trans ((Stp.ofBelow q o1 HB1.out).trans (hs2.trans (Stp.ofBelow q o2 hB3))))
  clear hv hj2 hK2 hc2 hs2 hB3 hr2 HRN
  go_wp2_with fail
  obtain ⟨hj7, hs7⟩ := HBG.out.stored HJ3.out HR3.out HS3.out (.int .i64 (kind : Int)) (.string ⟨text.toArray⟩) (.int .i64 n) (.slice a2 list.length cap2)
  refine bodyPost_ret (v := repV kind text n (.slice a2 list.length cap2)) (by simp [results, Tryz.results13, go_sem, hrc]) rfl ⟨_, rfl, ?_, o2, S2, c2, hj7, HK.out, HC.out, hs7⟩
  exact vw_four HV3.out (by simp)
/-- A world that a law has come to, and the space it made. -/
structure At (w0 : World) (o : Roles) (w : World) (p : Nat) (S : SP) (c : Cnt) (n : Nat) : Prop where
  sp : SpJ o w [1] p S c
  st : Stp [1] none0 w0 o w
  num : c.num ≤ n
theorem At.below {w0 w' : World} {n : Nat} (h : At w0 o w p S c n) (hB : Below w.heap.size w w') : At w0 o w' p S c n := ⟨h.sp.below hB, h.st.trans (Stp.ofBelow _ _ hB), h.num⟩
theorem At.since {w0 : World} {n : Nat} (h : At w0 o w p S c n) : Below w0.heap.size w0 w := h.st.below0
theorem At.vw {w0 : World} {n k sz : Nat} {v : Value} {xs : List Value} (h : At w0 o w p S c n) (hv : Vw (Old w0) w0 v sz k xs) : Vw (Old w) w v sz k xs := (hv.below h.since).imp (fun _ hb => Nat.lt_of_lt_of_le hb h.since.size)
/-- A reply, and where it leaves the law. -/
def RunAt (w0 : World) (w : World) (p : Nat) (n : Nat) (r : RP) (K : SP → Prop) (e : Ending) (w' : World) : Prop :=
  ∃ v, e = .returned (repV r.kind r.text r.n v) ∧ Vw (fun b => w.heap.size ≤ b) w' v 4 r.list.length (rfsC r.list) ∧ ∃ o' S' c', At w0 o' w' p S' c' (n + 2) ∧ K S' ∧ Below w0.heap.size w0 w'
theorem at_run {w0 : World} {n : Nat} (h : At w0 o w p S c n) {nm low : List UInt8} {args : List (List UInt8)} {sv : Value} (hv : Vw (Old w) w sv 1 (args.length + 1) ((nm :: args).map txt)) (hlow : lowL nm = low) (hn : nm.length ≤ 1099511627776) (hl : args.length + 1 ≤ 1099511627776) (hne : 0 < args.length)
    (hft : Fits low (args.length + 1)) {F : FuncId} (hg : Goes low F) {r : RP} {K : SP → Prop} (hs : Serves F w [1] p S c low args r K) :
    Calls Tryz.prog 13 #[.pointer (some ⟨p, 0, none⟩), sv] w (RunAt w0 w p n r K) := by
  refine (lawrun_ok h.sp (by decide) hv hlow hn hl hne hft hg hs).mono ?_
  rintro e w' ⟨v, rfl, hv', o', S', c', hj, hK, hc, hst⟩
  exact ⟨v, rfl, hv', o', S', c', ⟨hj, h.st.trans hst, by have := h.num; omega⟩, hK, (h.st.trans hst).below0⟩
end
theorem fits_rpush {n : Nat} (h : 3 ≤ n) : Fits rpushB n := ⟨⟨rpushB, -3, true, false, 1, 1, 1⟩, by decide +kernel, .inr ⟨by decide, by show (3 : Int) ≤ n; omega⟩, by decide⟩
theorem fits_lpush {n : Nat} (h : 3 ≤ n) : Fits lpushB n := ⟨⟨lpushB, -3, true, false, 1, 1, 1⟩, by decide +kernel, .inr ⟨by decide, by show (3 : Int) ≤ n; omega⟩, by decide⟩
theorem fits_lmove : Fits lmoveB 5 := ⟨⟨lmoveB, 5, true, false, 1, 2, 1⟩, by decide +kernel, .inl ⟨by decide, by decide⟩, by decide⟩
theorem fits_rpoplpush : Fits rpoplpushB 3 := ⟨⟨rpoplpushB, 3, true, false, 1, 2, 1⟩, by decide +kernel, .inl ⟨by decide, by decide⟩, by decide⟩
theorem fits_llen : Fits llenB 2 := ⟨⟨llenB, 2, false, false, 1, 1, 1⟩, by decide +kernel, .inl ⟨by decide, by decide⟩, by decide⟩
theorem fits_lrange : Fits lrangeB 4 := ⟨⟨lrangeB, 4, false, false, 1, 1, 1⟩, by decide +kernel, .inl ⟨by decide, by decide⟩, by decide⟩
end Go.Proofs.YtgmmeeikjofefaaGreatDoor
namespace Go.Proofs.YtgmmeeikjofefaaGreatDoor
open Go Go.RowKit
/-! awake; rows of the law's own making. -/
theorem Vw.old {A : Nat → Prop} {w : World} {v : Value} {sz n : Nat} {xs : List Value} (h : Vw A w v sz n xs) : Vw (Old w) w v sz n xs := by
  obtain ⟨⟨a, c, h1, h2, h3, h4⟩, h5⟩ := h
  refine ⟨⟨a, c, h1, h2, h3, ?_⟩, h5⟩
  rcases h4 with h4 | ⟨b, off, g1, g2, g3, g4⟩
  · exact .inl h4
  · exact .inr ⟨b, off, g1, g2, g2, g4⟩
/-- A slice of written texts. -/
theorem lit_vw (w : World) (xs : List (List UInt8)) (hn : xs.length ≤ 100) : Vw (Old (w.alloc (.cells (xs.map txt).toArray 9))) (w.alloc (.cells (xs.map txt).toArray 9)) (.slice (some ⟨w.heap.size, 0, none⟩) xs.length xs.length) 1 xs.length (xs.map txt) :=
  (vw_new (T := 9) rfl (by simp) (by unfold maxLen; omega)).old
theorem lit_below (w : World) (x : Obj) : Below w.heap.size w (w.alloc x) := (Below.refl _ _).alloc (Nat.le_refl _) _
theorem Row.lit (o : Roles) (w : World) (r : List Nat) (e : TypeId) (xs : List Value) (hn : xs.length ≤ 100) : Row (o.put w.heap.size r) (w.alloc (.cells xs.toArray e)) r e 1 (.slice (some ⟨w.heap.size, 0, none⟩) xs.length xs.length) xs.length xs := by
  refine ⟨⟨by simp, .inr ⟨w.heap.size, xs.length, xs.toArray, rfl, Nat.zero_le _, heap_alloc_new w _, Nat.le_refl _, by unfold maxLen; omega, by simp, by simp⟩⟩, fun g hg => ?_⟩
  simp only [Value.ownBlock, Option.some.injEq] at hg
  subst hg; exact Roles.put_same _ _ _
section
variable {o o' : Roles} {w w' w0 : World} {p n : Nat} {c : Cnt} {S : SP}
/-- A row of the law's own comes, and grows. -/
theorem At.app (h : At w0 o w p S c n) (x : Obj) (hs : Stp [9] (o.put w.heap.size [9]) (w.alloc x) o' w') : At w0 o' w' p S c n := by
  have s1 : Stp [9] o w o' w' := ((Stp.refl [9] o w).alloc (r' := [9]) x w.heap.size rfl).trans hs
  refine ⟨h.sp.keep s1 (by intro t ht; simp at ht), h.st.hide s1 (fun b _ => by unfold none0; simp), h.num⟩
end
abbrev aB : List UInt8 := [97]
abbrev bB : List UInt8 := [98]
abbrev kB : List UInt8 := [107]
set_option maxRecDepth 10000 in
set_option maxHeartbeats 4000000 in
theorem awake_ok {w : World} (hT : Tbl w) : Calls Tryz.prog 11 #[] w fun e w' => e = .returned (.bool true) ∧ Below w.heap.size w w' := by
  have HN := Lib.hid (jnew_ok none0 w [1])
  have HT := Lib.hid hT
  clear hT
  go_enter Tryz.func11, Tryz.ntmps11
  go_wp2_with fail
  refine HN.out.mono ?_; rintro e w1 ⟨p, o1, rfl, hj, hs⟩
  have h1 : At w o1 w1 p (fun _ => none) ⟨0, 0⟩ 0 := ⟨hj, hs, Nat.le_refl _⟩
  have H1 := Lib.hid h1
  clear hj hs h1 HN
  go_wp2_with fail
  refine (at_run (H1.out.below (lit_below w1 _)) (nm := [82, 80, 85, 83, 72]) (args := [[108], [97], [98], [99]]) (lit_vw w1 [[82, 80, 85, 83, 72], [108], [97], [98], [99]] (by decide)) (low := rpushB) (by decide) (by decide) (by decide) (by decide) (fits_rpush (by decide)) (.inl ⟨rfl, .inr rfl⟩)
    (K := fun S => KeyIs S [108] [[97], [98], [99]])
    (serves_push (by decide) (KeyIs.empty [108]) false (by decide) (by decide) (by decide) (by decide) (fun H h => h))).mono ?_
  rintro e w2 ⟨v2, rfl, hv2, o2, S2, c2, h2, hK2, hB2⟩
  obtain ⟨a2, l2, rfl, _⟩ := id hv2.slice
  have H2 := Lib.hid h2
  have HK2 := Lib.hid hK2
  clear hv2 h2 hK2 hB2 H1
  go_wp2_with fail
  refine (lawnumber_ok _ _ _ _ _ _).mono ?_; rintro e w3 ⟨rfl, hB3⟩
  have H3 := Lib.hid (H2.out.below hB3)
  clear hB3 H2
  go_wp2_with fail
  refine (at_run (H3.out.below (lit_below w3 _)) (nm := [108, 112, 117, 115, 104]) (args := [[108], [120], [121]]) (lit_vw w3 [[108, 112, 117, 115, 104], [108], [120], [121]] (by decide)) (low := lpushB) (by decide) (by decide) (by decide) (by decide) (fits_lpush (by decide)) (.inl ⟨rfl, .inl rfl⟩)
    (K := fun S => KeyIs S [108] [[121], [120], [97], [98], [99]])
    (serves_push (by decide) HK2.out true (by decide) (by decide) (by decide) (Nat.le_trans H3.out.num (by decide)) (fun H h => h))).mono ?_
  rintro e w4 ⟨v4, rfl, hv4, o4, S4, c4, h4, hK4, hB4⟩
  obtain ⟨a4, l4, rfl, _⟩ := id hv4.slice
  have H4 := Lib.hid h4
  have HK4 := Lib.hid hK4
  clear hv4 h4 hK4 hB4 H3 HK2
  go_wp2_with fail
  refine (lawnumber_ok _ _ _ _ _ _).mono ?_; rintro e w5 ⟨rfl, hB5⟩
  have H5 := Lib.hid (H4.out.below hB5)
  clear hB5 H4
  go_wp2_with fail
  refine (at_run (H5.out.below (lit_below w5 _)) (nm := [108, 114, 97, 110, 103, 101]) (args := [[108], [49], [45, 50]]) (lit_vw w5 [[108, 114, 97, 110, 103, 101], [108], [49], [45, 50]] (by decide)) (low := lrangeB) (by decide) (by decide) (by decide) (by decide) fits_lrange (.inr (.inr (.inl ⟨rfl, .inr (.inl rfl)⟩)))
    (K := fun _ => True)
    (serves_range (by decide) (HT.out.below (H5.out.below (lit_below w5 _)).since) HK4.out parse_1 parse_m2 (by decide) (by decide) (by decide) (by decide) (by decide) trivial)).mono ?_
  rintro e w6 ⟨v6, rfl, hv6, o6, S6, c6, h6, hK6, hB6⟩
  have ep : pieceL [[121], [120], [97], [98], [99]] 1 (-2) = [[120], [97], [98]] := by decide +kernel
  rw [ep] at hv6 ⊢
  obtain ⟨a6, l6, rfl, _⟩ := id hv6.slice
  have H6 := Lib.hid h6
  have HV6 := Lib.hid hv6
  clear hv6 h6 hK6 hB6 H5 HK4 ep
  go_wp2_with fail
  refine (lawbulks_ok (l := [[120], [97], [98]]) (HV6.out.below (lit_below w6 _)) (lit_vw w6 [[120], [97], [98]] (by decide)) (by decide)).mono ?_
  rintro e w7 ⟨rfl, hB7⟩
  have HB := Lib.hid (H6.out.below ((lit_below w6 _).trans (hB7.mono (by simp)))).since
  clear hB7 H6 HV6
  go_wp2_with fail
  go_ret
  exact ⟨rfl, HB.out⟩
end Go.Proofs.YtgmmeeikjofefaaGreatDoor
