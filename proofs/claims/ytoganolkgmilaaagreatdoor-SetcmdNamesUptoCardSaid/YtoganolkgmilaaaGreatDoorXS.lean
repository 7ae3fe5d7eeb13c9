import Derived.Test.YtoganolkgmilaaaGreatDoorXK
import Derived.Test.YtoganolkgmilaaaGreatDoorXR
import Derived.Test.YtoganolkgmilaaaGreatDoorXL
namespace Go.Proofs.YtoganolkgmilaaaGreatDoor
open Go Go.RowKit
/-! The law's own small functions. -/
set_option maxRecDepth 10000 in
theorem lawnumber_ok (w : World) (t : List UInt8) (n : Int) (a : Option Addr) (ln cap : Nat) : Calls Tryz.prog 18 #[.agg #[.int .i64 3, .string ⟨t.toArray⟩, .int .i64 n, .slice a ln cap], .int .i64 n] w fun e w' => e = .returned (.bool true) ∧ Below w.heap.size w w' := by
  go_enter Tryz.func18, Tryz.ntmps18
  go_wp2_with fail
  go_ret
  exact ⟨rfl, (Below.refl _ _).alloc (Nat.le_refl _) _⟩
set_option maxRecDepth 10000 in
theorem lawbulk_ok (w : World) (t : List UInt8) (n : Int) (a : Option Addr) (ln cap : Nat) : Calls Tryz.prog 32 #[.agg #[.int .i64 4, .string ⟨t.toArray⟩, .int .i64 n, .slice a ln cap], txt t] w fun e w' => e = .returned (.bool true) ∧ Below w.heap.size w w' := by
  unfold txt
  go_enter Tryz.func32, Tryz.ntmps32
  go_wp2_with fail
  go_ret
  exact ⟨rfl, (Below.refl _ _).alloc (Nat.le_refl _) _⟩
set_option maxRecDepth 10000 in
theorem lawshort_ok {A : Nat → Prop} {w : World} {v : Value} {l : List (List UInt8)} (hv : Vw A w v 1 l.length (l.map txt)) (hs : ∀ x ∈ l, x.length ≤ 1048576) (hn : l.length ≤ 1099511627776) :
    Calls Tryz.prog 11 #[v] w fun e w' => e = .returned (.bool true) ∧ w' = w := by
  obtain ⟨a, cap, rfl, hcap, _⟩ := id hv.slice
  have HV := Lib.hid hv
  have HS := Lib.hid hs
  clear hv hs
  go_enter Tryz.func11, Tryz.ntmps11
  go_wp2_with fail
  go_loopw [3] (fun i wr => ∃ k : Nat, k ≤ l.length ∧ i = .int .i64 (k : Int) ∧ wr = w) (fun i _ => l.length - (intOf i).toNat)
  case atStart => exact ⟨0, Nat.zero_le _, rfl, rfl⟩
  case round =>
    obtain ⟨k, hk, rfl, rfl⟩ := hrel
    by_cases hkl : k < l.length
    · obtain ⟨x, hx⟩ : ∃ x, l[k]? = some x := ⟨_, List.getElem?_eq_getElem hkl⟩
      obtain ⟨b, off, rfl, _, _, hg⟩ := vw_get HV.out (by omega)
      have hcell := hg k x hx
      have hkI : (0 : Int) ≤ k ∧ (k : Int) < l.length := by omega
      have hsx := HS.out x (List.mem_of_getElem? hx)
      clear hg hx
      go_wp2_with fail
      exact ⟨⟨k + 1, hkl, by simp, trivial⟩, by simp [intOf]; omega⟩
    · obtain rfl : k = l.length := by omega
      clear HS
      go_wp2_with fail
      go_ret
      exact ⟨rfl, rfl⟩
/-- A reply's rows. -/
theorem vw_rf {A : Nat → Prop} {w : World} {a : Option Addr} {n cap : Nat} {L : List Rf} (h : Vw A w (.slice a n cap) 4 n (rfsC L)) {k : Nat} {y : Rf} (hy : L[k]? = some y) : ∃ b off, a = some ⟨b, off, none⟩ ∧ n ≤ cap ∧ b < w.heap.size ∧
    w.cell? ⟨b, off + k * 4, none⟩ = some (.int .i64 (y.kind : Int)) ∧ w.cell? ⟨b, off + k * 4 + 1, none⟩ = some (.string ⟨y.text.toArray⟩) ∧ w.cell? ⟨b, off + k * 4 + 2, none⟩ = some (.int .i64 y.n) ∧ w.cell? ⟨b, off + k * 4 + 3, none⟩ = some (.slice none 0 0) := by
  have hlen : L.length = n := by have := h.len; rw [rfsC_len] at this; omega
  have hk : k < L.length := (List.getElem?_eq_some_iff.1 hy).1
  obtain ⟨⟨a', c', e, h1, h2, h3⟩, h4⟩ := h
  injection e with e1 e2 e3
  subst e1 e3
  rcases h3 with h3 | ⟨b, off, rfl, g5, g6, g7⟩
  · omega
  have hd : L = L.take k ++ y :: L.drop (k + 1) := by
    have e1 : L.drop k = y :: L.drop (k + 1) := by
      rw [List.drop_eq_getElem_cons hk]
      congr 1
      rw [List.getElem?_eq_getElem hk] at hy
      cases hy; rfl
    rw [← e1, List.take_append_drop]
  have hc : ∀ j u, (rfC y)[j]? = some u → w.cell? ⟨b, off + k * 4 + j, none⟩ = some u := by
    intro j u hj
    have hj4 : j < 4 := (List.getElem?_eq_some_iff.1 hj).1
    have := g7 (k * 4 + j) u (by
      rw [hd, rfsC_app, List.getElem?_append_right (by rw [rfsC_len, List.length_take]; omega)]
      rw [rfsC_len, List.length_take, Nat.min_eq_left (Nat.le_of_lt hk)]
      show (rfC y ++ rfsC (L.drop (k + 1)))[_]? = _
      rw [show k * 4 + j - k * 4 = j by omega, List.getElem?_append_left (by simpa [rfC] using hj4)]
      exact hj)
    rw [← Nat.add_assoc] at this; exact this
  exact ⟨b, off, rfl, h1, g5, by simpa using hc 0 _ rfl, hc 1 _ rfl, hc 2 _ rfl, hc 3 _ rfl⟩
def BksRel (w : World) (a : Option Addr) (n cap : Nat) (i : Value) (wr : World) : Prop :=
  ∃ k : Nat, k ≤ n ∧ i = .int .i64 (k : Int) ∧ Below w.heap.size w wr ∧ Blk none0 wr [] w.heap.size #[.int .i64 6, .string ⟨#[]⟩, .int .i64 0, .slice a n cap] 29
set_option maxRecDepth 10000 in
set_option maxHeartbeats 4000000 in
theorem lawbulks_ok {A B : Nat → Prop} {w : World} {a : Option Addr} {cap : Nat} {v : Value} {l : List (List UInt8)} (hr : Vw B w (.slice a l.length cap) 4 l.length (rfsC (l.map bulkF))) (hv : Vw A w v 1 l.length (l.map txt)) (hn : l.length ≤ 1099511627776) :
    Calls Tryz.prog 17 #[.agg #[.int .i64 6, .string ⟨#[]⟩, .int .i64 0, .slice a l.length cap], v] w fun e w' => e = .returned (.bool true) ∧ Below w.heap.size w w' := by
  obtain ⟨a1, cap1, rfl, hcap1, _⟩ := id hv.slice
  have HV := Lib.hid hv
  have HR := Lib.hid hr
  clear hv hr
  have hat : BksRel w a l.length cap (.int .i64 0) (w.alloc (.cells #[.int .i64 6, .string ⟨#[]⟩, .int .i64 0, .slice a l.length cap] 29)) :=
    ⟨0, Nat.zero_le _, rfl, (Below.refl _ _).alloc (Nat.le_refl _) _, heap_alloc_new w _, rfl⟩
  go_enter Tryz.func17, Tryz.ntmps17
  go_wp2_with fail
  go_loopw [5] (fun i wr => BksRel w a l.length cap i wr) (fun i _ => l.length - (intOf i).toNat)
  case atStart => exact hat
  case round =>
    obtain ⟨k, hk, rfl, hB, hblk⟩ := hrel
    clear hat
    by_cases hkl : k < l.length
    · obtain ⟨x, hx⟩ : ∃ x, l[k]? = some x := ⟨_, List.getElem?_eq_getElem hkl⟩
      obtain ⟨b, off, rfl, _, hbl, hg⟩ := vw_get HV.out (by omega)
      have hcell0 := hg k x hx
      obtain ⟨b2, off2, rfl, hcap2, hbl2, c0, c1, c2, c3⟩ := vw_rf HR.out (k := k) (y := bulkF x) (by rw [List.getElem?_map, hx]; rfl)
      have hlb : b < w.heap.size := World.block_lt_of_cell? _ _ hcell0
      have hcell : wr.cell? ⟨b, off + k, none⟩ = some (.string ⟨x.toArray⟩) := by rw [(bcell hB).1 _ _ hlb]; exact hcell0
      have d0 : wr.cell? ⟨b2, off2 + k * 4, none⟩ = some (.int .i64 4) := by rw [(bcell hB).1 _ _ hbl2]; exact c0
      have d1 : wr.cell? ⟨b2, off2 + k * 4 + 1, none⟩ = some (.string ⟨x.toArray⟩) := by rw [(bcell hB).1 _ _ hbl2]; exact c1
      have d2 : wr.cell? ⟨b2, off2 + k * 4 + 2, none⟩ = some (.int .i64 0) := by rw [(bcell hB).1 _ _ hbl2]; exact c2
      have d3 : wr.cell? ⟨b2, off2 + k * 4 + 3, none⟩ = some (.slice none 0 0) := by rw [(bcell hB).1 _ _ hbl2]; exact c3
      have hkI : (0 : Int) ≤ k ∧ (k : Int) < l.length := by omega
      have hld := hblk.cell
      have HB := Lib.hid hB
      have HBLK := Lib.hid hblk
      have HBU := Lib.hid (fun W => lawbulk_ok W x 0 none 0 0)
      unfold txt at HBU
      clear hg hx hcell0 c0 c1 c2 c3 hB hblk HV HR
      go_wp2_with fail
      go_region_with (
        go_at_call 32
        (with_reducible refine (HBU.out _).mono ?_)
        rintro e w3 ⟨rfl, hB3⟩
        have hB3' : Below wr.heap.size wr w3 := (Below.refl _ _).drew.trans hB3
        have D := Lib.hid (show BksRel w (some ⟨b2, off2, none⟩) l.length cap (.int .i64 ((k + 1 : Nat) : Int)) w3 from ⟨k + 1, hkl, rfl, HB.out.trans (hB3'.mono HB.out.size), HBLK.out.below hB3'⟩)
        clear hB3 hB3')
      all_goals (
        clear HB HBLK HBU hcell d0 d1 d2 d3 hld
        go_wp2_with fail
        go_roundw
        case rel => exact D.out
        case measure => simp [intOf]; omega)
    · obtain rfl : k = l.length := by omega
      have HB := Lib.hid hB
      clear HV HR hB hblk
      go_wp2_with fail
      go_ret
      exact ⟨rfl, HB.out⟩
end Go.Proofs.YtoganolkgmilaaaGreatDoor
namespace Go.Proofs.YtoganolkgmilaaaGreatDoor
open Go Go.RowKit
/-! The law's run. -/
section
variable {o : Roles} {w : World} {q : List Nat} {p : Nat} {c : Cnt} {S : SP}
set_option maxRecDepth 10000 in
set_option maxHeartbeats 4000000 in
theorem lawrun_of (h : SpJ o w q p S c) (hq : q ≠ []) {A : Nat → Prop} {n0 : Nat} {xs : List Value} {sv : Value} (hv : Vw A w sv 1 n0 xs) {r : RP} {K : SP → Cnt → Prop}
    (hs : ∀ (o1 : Roles) (w1 : World), SpJ o1 w1 q p S c → Below w.heap.size w w1 → Calls Tryz.prog 26 #[.pointer (some ⟨p, 0, none⟩), .int .i64 0, sv] w1 (RunDid o1 w1 q p r K)) :
    Calls Tryz.prog 12 #[.pointer (some ⟨p, 0, none⟩), sv] w (RepL o w q p r K) := by
  obtain ⟨o1, m, hbg, hj⟩ := begin_roles h hq
  obtain ⟨a0, cap, rfl, _⟩ := id hv.slice
  have HRN := Lib.hid (hs o1 _ (hj.below hbg.res.2) hbg.res.2)
  have HBG := Lib.hid hbg
  have HR1 := Lib.hid hbg.res.1
  have HB1 := Lib.hid hbg.res.2
  clear h hbg hj hs hv
  obtain ⟨kind, text, n, list⟩ := r
  unfold RunDid at HRN
  dsimp only at HRN
  go_enter Tryz.func12, Tryz.ntmps12
  go_wp2_with fail
  refine HRN.out.mono ?_; rintro e w2 ⟨v, rfl, hv, o2, S2, c2, hj2, hK2, hs2⟩
  obtain ⟨a2, cap2, rfl, _⟩ := id hv.slice
  have hB3 : Below w2.heap.size w2 (w2.alloc (.cells #[.int .i64 (kind : Int), .string ⟨text.toArray⟩, .int .i64 n, .slice a2 list.length cap2] 29)) := (Below.refl _ _).alloc (Nat.le_refl _) _
  have hr2 := (HR1.out.keep hs2 (HBG.out.aq 2).not).below hB3
  have hrc := hr2.cell
  have hrf := hr2.free
  have HJ3 := Lib.hid (hj2.below hB3)
  have HR3 := Lib.hid hr2
  have HV3 := Lib.hid (hv.below hB3)
  have HK := Lib.hid hK2
  have HS3 := Lib.hid ((HBG.out.st q).trans ((Stp.ofBelow q o1 HB1.out).trans (hs2.trans (Stp.ofBelow q o2 hB3))))
  clear hv hj2 hK2 hs2 hB3 hr2 HRN
  go_wp2_with fail
  obtain ⟨hj7, hs7⟩ := HBG.out.stored HJ3.out HR3.out HS3.out (.int .i64 (kind : Int)) (.string ⟨text.toArray⟩) (.int .i64 n) (.slice a2 list.length cap2)
  refine bodyPost_ret (v := repV kind text n (.slice a2 list.length cap2)) (by simp [results, Tryz.results12, go_sem, hrc]) rfl ⟨_, rfl, ?_, o2, S2, c2, hj7, HK.out, hs7⟩
  exact vw_four HV3.out (by simp)
/-- A world that a law has come to, and the space it made. -/
structure At (w0 : World) (o : Roles) (w : World) (p : Nat) (S : SP) (c : Cnt) (n : Nat) : Prop where
  sp : SpJ o w [1] p S c
  st : Stp [1] none0 w0 o w
  num : c.num ≤ n
  few : c.few ≤ n
theorem At.below {w0 w' : World} {n : Nat} (h : At w0 o w p S c n) (hB : Below w.heap.size w w') : At w0 o w' p S c n := ⟨h.sp.below hB, h.st.trans (Stp.ofBelow _ _ hB), h.num, h.few⟩
theorem At.since {w0 : World} {n : Nat} (h : At w0 o w p S c n) : Below w0.heap.size w0 w := h.st.below0
theorem At.mono {w0 : World} {n n' : Nat} (h : At w0 o w p S c n) (hn : n ≤ n') : At w0 o w p S c n' := ⟨h.sp, h.st, Nat.le_trans h.num hn, Nat.le_trans h.few hn⟩
theorem At.vw {w0 : World} {n k sz : Nat} {v : Value} {xs : List Value} (h : At w0 o w p S c n) (hv : Vw (Old w0) w0 v sz k xs) : Vw (Old w) w v sz k xs := (hv.below h.since).imp (fun _ hb => Nat.lt_of_lt_of_le hb h.since.size)
theorem At.cell {w0 : World} {n : Nat} (h : At w0 o w p S c n) {b off : Nat} {u : Value} (hc : w0.cell? ⟨b, off, none⟩ = some u) : w.cell? ⟨b, off, none⟩ = some u := cell_below h.since hc
/-- A reply, and where it leaves the law. -/
def RunAt (w0 : World) (w : World) (p : Nat) (n : Nat) (r : RP) (K : SP → Prop) (e : Ending) (w' : World) : Prop :=
  ∃ v, e = .returned (repV r.kind r.text r.n v) ∧ Vw (fun b => w.heap.size ≤ b) w' v 4 r.list.length (rfsC r.list) ∧ ∃ o' S' c', At w0 o' w' p S' c' (n + 2) ∧ K S' ∧ Below w0.heap.size w0 w'
theorem at_of {w0 : World} {n : Nat} (h : At w0 o w p S c n) {r : RP} {K : SP → Cnt → Prop} {K2 : SP → Prop} (hK : ∀ S' c', K S' c' → K2 S' ∧ c'.num ≤ c.num + 2 ∧ c'.few ≤ c.few + 2) {e : Ending} {w' : World} (hr : RepL o w [1] p r K e w') : RunAt w0 w p n r K2 e w' := by
  obtain ⟨v, rfl, hv', o', S', c', hj, hk, hst⟩ := hr
  obtain ⟨h1, h2, h3⟩ := hK S' c' hk
  exact ⟨v, rfl, hv', o', S', c', ⟨hj, h.st.trans hst, by have := h.num; omega, by have := h.few; omega⟩, h1, (h.st.trans hst).below0⟩
theorem at_run {w0 : World} {n : Nat} (h : At w0 o w p S c n) {nm low : Tx} {args : List Tx} {sv : Value} (hv : Vw (Old w) w sv 1 (args.length + 1) ((nm :: args).map txt)) (hlow : lowL nm = low) (hn : nm.length ≤ 1099511627776) (hl : args.length + 1 ≤ 1099511627776) (hne : 0 < args.length)
    (hft : Fits low (args.length + 1)) {F : FuncId} (hg : Goes low F) {r : RP} {K : SP → Prop} (hs : Serves F w [1] p S c low args r (fun S' c' => K S' ∧ c.near c')) :
    Calls Tryz.prog 12 #[.pointer (some ⟨p, 0, none⟩), sv] w (RunAt w0 w p n r K) :=
  (lawrun_of h.sp (by decide) hv (K := fun S' c' => K S' ∧ c.near c') fun o1 w1 hj hB => lRun_ok hj (by decide) ((hv.below hB).imp fun _ hb => Nat.lt_of_lt_of_le hb hB.size) hlow hn hl hne hft hg
    (fun o2 w2 cb m2 sv hj2 hm2 hB2 hcb hv2 => hs o2 w2 cb m2 sv hj2 hm2 (hB.trans (hB2.mono hB.size)) hcb hv2)).mono fun _ _ hr => at_of h (fun _ _ hk => ⟨hk.1, hk.2.1, hk.2.2⟩) hr
theorem at_join {w0 : World} {n : Nat} (h : At w0 o w p S c n) {nm low : Tx} {args : List Tx} {sv : Value} (hv : Vw (Old w) w sv 1 (args.length + 1) ((nm :: args).map txt)) (hlow : lowL nm = low) (hn : nm.length ≤ 1099511627776) (hl : args.length + 1 ≤ 1099511627776) (hne : 0 < args.length)
    (hft : Fits low (args.length + 1)) {way : Nat} (hg : UName low way) {l0 : List Tx} {R : List (List Tx)} (hLs : args.map (fun k => ((S.at 0 k).getD hd0).v.list) = l0 :: R) (hwr : ∀ k ∈ args, ((S.at 0 k).isSome && ((S.at 0 k).getD hd0).v.kind != 4) = false) (hfl : (l0 :: R).flatten.length ≤ 274877906944) (hkl : args.length ≤ 274877906944) :
    Calls Tryz.prog 12 #[.pointer (some ⟨p, 0, none⟩), sv] w (RunAt w0 w p n (bulksR (joinL way l0 R)) (fun S' => S' = S)) :=
  (lawrun_of h.sp (by decide) hv fun o1 w1 hj hB => lRun_join hj (by decide) ((hv.below hB).imp fun _ hb => Nat.lt_of_lt_of_le hb hB.size) hlow hn hl hne hft hg hLs hwr hfl hkl).mono fun _ _ hr => at_of h (fun S' c' hk => ⟨hk.1, by rw [hk.2]; omega, by rw [hk.2]; omega⟩) hr
theorem at_store {w0 : World} {n : Nat} (h : At w0 o w p S c n) {nm low : Tx} {d : Tx} {ks : List Tx} {sv : Value} (hv : Vw (Old w) w sv 1 ((d :: ks).length + 1) ((nm :: d :: ks).map txt)) (hlow : lowL nm = low) (hn : nm.length ≤ 1099511627776) (hl : (d :: ks).length + 1 ≤ 1099511627776)
    (hft : Fits low ((d :: ks).length + 1)) {way : Nat} (hg : SName low way) {l0 : List Tx} {R : List (List Tx)} (hLs : ks.map (fun k => ((S.at 0 k).getD hd0).v.list) = l0 :: R) (hwr : ∀ k ∈ ks, ((S.at 0 k).isSome && ((S.at 0 k).getD hd0).v.kind != 4) = false) (hfl : (l0 :: R).flatten.length ≤ 274877906944) (hkl : ks.length ≤ 274877906944)
    (hsm : ∀ x ∈ joinL way l0 R, x.length ≤ 1048576) (hnn : n ≤ 1099511620000) :
    Calls Tryz.prog 12 #[.pointer (some ⟨p, 0, none⟩), sv] w (RunAt w0 w p n (numR (joinL way l0 R).length) (fun S' => ∃ m, S' = S.layS 0 d (joinL way l0 R) 0 m)) :=
  (lawrun_of h.sp (by decide) hv fun o1 w1 hj hB => lRun_store hj (by decide) ((hv.below hB).imp fun _ hb => Nat.lt_of_lt_of_le hb hB.size) hlow hn hl (by simp) hft hg rfl hLs hwr hfl hkl hsm (by have := h.num; omega) (by have := h.few; omega)).mono fun _ _ hr => at_of h (fun S' c' hk => ⟨⟨_, hk.1⟩, by rw [hk.2]; have := layS_near c (S.at 0 d).isSome (joinL way l0 R); omega, by rw [hk.2]; have := layS_near c (S.at 0 d).isSome (joinL way l0 R); omega⟩) hr
end
end Go.Proofs.YtoganolkgmilaaaGreatDoor
namespace Go.Proofs.YtoganolkgmilaaaGreatDoor
open Go Go.RowKit
/-! Requests that are some, by the table. -/
theorem fits_sadd {n : Nat} (h : 3 ≤ n) : Fits saddB n := ⟨⟨saddB, -3, true, false, 1, 1, 1⟩, by decide +kernel, .inr ⟨by decide, by show (3 : Int) ≤ n; omega⟩, by decide⟩
theorem fits_scard : Fits scardB 2 := ⟨⟨scardB, 2, false, false, 1, 1, 1⟩, by decide +kernel, .inl ⟨by decide, by decide⟩, by decide⟩
theorem fits_sdiff {n : Nat} (h : 2 ≤ n) : Fits sdiffB n := ⟨⟨sdiffB, -2, false, false, 1, -1, 1⟩, by decide +kernel, .inr ⟨by decide, by show (2 : Int) ≤ n; omega⟩, by decide⟩
theorem fits_sdiffstore {n : Nat} (h : 3 ≤ n) : Fits sdiffstoreB n := ⟨⟨sdiffstoreB, -3, true, false, 1, -1, 1⟩, by decide +kernel, .inr ⟨by decide, by show (3 : Int) ≤ n; omega⟩, by decide⟩
theorem fits_sinter {n : Nat} (h : 2 ≤ n) : Fits sinterB n := ⟨⟨sinterB, -2, false, false, 1, -1, 1⟩, by decide +kernel, .inr ⟨by decide, by show (2 : Int) ≤ n; omega⟩, by decide⟩
theorem fits_sinterstore {n : Nat} (h : 3 ≤ n) : Fits sinterstoreB n := ⟨⟨sinterstoreB, -3, true, false, 1, -1, 1⟩, by decide +kernel, .inr ⟨by decide, by show (3 : Int) ≤ n; omega⟩, by decide⟩
theorem fits_sismember : Fits sismemberB 3 := ⟨⟨sismemberB, 3, false, false, 1, 1, 1⟩, by decide +kernel, .inl ⟨by decide, by decide⟩, by decide⟩
theorem fits_smembers : Fits smembersB 2 := ⟨⟨smembersB, 2, false, false, 1, 1, 1⟩, by decide +kernel, .inl ⟨by decide, by decide⟩, by decide⟩
theorem fits_smismember {n : Nat} (h : 3 ≤ n) : Fits smismemberB n := ⟨⟨smismemberB, -3, false, false, 1, 1, 1⟩, by decide +kernel, .inr ⟨by decide, by show (3 : Int) ≤ n; omega⟩, by decide⟩
theorem fits_smove : Fits smoveB 4 := ⟨⟨smoveB, 4, true, false, 1, 2, 1⟩, by decide +kernel, .inl ⟨by decide, by decide⟩, by decide⟩
theorem fits_spop {n : Nat} (h : 2 ≤ n) : Fits spopB n := ⟨⟨spopB, -2, true, false, 1, 1, 1⟩, by decide +kernel, .inr ⟨by decide, by show (2 : Int) ≤ n; omega⟩, by decide⟩
theorem fits_srem {n : Nat} (h : 3 ≤ n) : Fits sremB n := ⟨⟨sremB, -3, true, false, 1, 1, 1⟩, by decide +kernel, .inr ⟨by decide, by show (3 : Int) ≤ n; omega⟩, by decide⟩
theorem fits_sscan {n : Nat} (h : 3 ≤ n) : Fits sscanB n := ⟨⟨sscanB, -3, false, false, 1, 1, 1⟩, by decide +kernel, .inr ⟨by decide, by show (3 : Int) ≤ n; omega⟩, by decide⟩
theorem fits_sunion {n : Nat} (h : 2 ≤ n) : Fits sunionB n := ⟨⟨sunionB, -2, false, false, 1, -1, 1⟩, by decide +kernel, .inr ⟨by decide, by show (2 : Int) ≤ n; omega⟩, by decide⟩
theorem fits_sunionstore {n : Nat} (h : 3 ≤ n) : Fits sunionstoreB n := ⟨⟨sunionstoreB, -3, true, false, 1, -1, 1⟩, by decide +kernel, .inr ⟨by decide, by show (3 : Int) ≤ n; omega⟩, by decide⟩
end Go.Proofs.YtoganolkgmilaaaGreatDoor
namespace Go.Proofs.YtoganolkgmilaaaGreatDoor
open Go Go.RowKit
/-! awake; what all keys hold. -/
/-- A slice of written texts. -/
theorem lit_vw (w : World) (xs : List Tx) (hn : xs.length ≤ 100) : Vw (Old (w.alloc (.cells (xs.map txt).toArray 9))) (w.alloc (.cells (xs.map txt).toArray 9)) (.slice (some ⟨w.heap.size, 0, none⟩) xs.length xs.length) 1 xs.length (xs.map txt) :=
  (vw_new (T := 9) rfl (by simp) (by unfold maxLen; omega)).old
section
variable {o o' : Roles} {w w' w0 : World} {p n : Nat} {c : Cnt} {S : SP}
theorem At.app (h : At w0 o w p S c n) (x : Obj) (hs : Stp [9] (o.put w.heap.size [9]) (w.alloc x) o' w') : At w0 o' w' p S c n := by
  have s1 : Stp [9] o w o' w' := ((Stp.refl [9] o w).alloc (r' := [9]) x w.heap.size rfl).trans hs
  refine ⟨h.sp.keep s1 (by intro t ht; simp at ht), h.st.hide s1 (fun b _ => by unfold none0; simp), h.num, h.few⟩
end
abbrev aB : Tx := [97]
abbrev bB : Tx := [98]
abbrev cB : Tx := [99]
abbrev dB : Tx := [100]
abbrev kB : Tx := [107]
abbrev sB : Tx := [115]
abbrev tB : Tx := [116]
/-- What every key holds: sets, and nothing else. -/
def Sets (f : Tx → List Tx) (S : SP) : Prop := ∀ k, SetIs S k (f k) ∧ Asc (f k)
def upd (f : Tx → List Tx) (k : Tx) (l : List Tx) : Tx → List Tx := fun j => if j = k then l else f j
theorem upd_same (f : Tx → List Tx) (k : Tx) (l : List Tx) : upd f k l k = l := if_pos rfl
theorem upd_far {f : Tx → List Tx} {k j : Tx} (h : j ≠ k) (l : List Tx) : upd f k l j = f j := if_neg h
theorem Sets.empty : Sets (fun _ => []) (fun _ => none) := fun k => ⟨SetIs.empty k, Asc.nil⟩
theorem Sets.upd {f : Tx → List Tx} {S S' : SP} {k : Tx} {l : List Tx} (h : Sets f S) (h1 : SetIs S' k l) (ha : Asc l) (h2 : ∀ j, j ≠ k → S' j = S j) : Sets (upd f k l) S' := fun j => by
  by_cases hj : j = k
  · subst hj; rw [upd_same]; exact ⟨h1, ha⟩
  · rw [upd_far hj]; exact ⟨(h j).1.far (h2 j hj), (h j).2⟩
theorem Sets.lists {f : Tx → List Tx} {S : SP} (h : Sets f S) (ks : List Tx) : ks.map (fun k => ((S.at 0 k).getD hd0).v.list) = ks.map f := by
  induction ks with
  | nil => rfl
  | cons k t ih => simp only [List.map_cons, ih, ((h k).1.at 0).1]
theorem Sets.right {f : Tx → List Tx} {S : SP} (h : Sets f S) (ks : List Tx) : ∀ k ∈ ks, ((S.at 0 k).isSome && ((S.at 0 k).getD hd0).v.kind != 4) = false := fun k _ => ((h k).1.at 0).2.1
theorem nextL_asc (add : Bool) (l more : List Tx) : Asc (nextL add l more) := by
  cases add with
  | true => exact ofL_asc _
  | false => exact lessL_asc _ _
/-- A list of texts as a reply, and where it leaves the law. -/
def BksAt (w0 : World) (w : World) (p : Nat) (n : Nat) (L : List Tx) (K : SP → Prop) (e : Ending) (w' : World) : Prop :=
  ∃ a c, e = .returned (repV 6 [] 0 (.slice a L.length c)) ∧ Vw (fun b => w.heap.size ≤ b) w' (.slice a L.length c) 4 L.length (rfsC (L.map bulkF)) ∧ ∃ o' S' c', At w0 o' w' p S' c' (n + 2) ∧ K S' ∧ Below w0.heap.size w0 w'
theorem RunAt.bks {w0 w w' : World} {p n : Nat} {L : List Tx} {K : SP → Prop} {e : Ending} (h : RunAt w0 w p n (bulksR L) K e w') : BksAt w0 w p n L K e w' := by
  obtain ⟨v, rfl, hv, h⟩ := h
  have e : (bulksR L).list.length = L.length := by simp [bulksR]
  rw [e] at hv
  obtain ⟨a, c, rfl, _⟩ := id hv.slice
  exact ⟨a, c, rfl, hv, h⟩
/-- A number as a reply, and where it leaves the law. -/
def NumAt (w0 : World) (p : Nat) (n : Nat) (N : Int) (K : SP → Prop) (e : Ending) (w' : World) : Prop :=
  ∃ a k c, e = .returned (repV 3 [] N (.slice a k c)) ∧ ∃ o' S' c', At w0 o' w' p S' c' (n + 2) ∧ K S' ∧ Below w0.heap.size w0 w'
theorem RunAt.num {w0 w w' : World} {p n : Nat} {N : Int} {K : SP → Prop} {e : Ending} (h : RunAt w0 w p n (numR N) K e w') : NumAt w0 p n N K e w' := by
  obtain ⟨v, rfl, hv, h⟩ := h
  obtain ⟨a, c, rfl, _⟩ := id hv.slice
  exact ⟨a, _, c, rfl, h⟩
section
variable {o : Roles} {w w0 : World} {p n : Nat} {c : Cnt} {S : SP} {f : Tx → List Tx} {k : Tx} {nm : Tx} {sv : Value}
theorem run_change (h : At w0 o w p S c n) (hn : n ≤ 1099511620000) (hf : Sets f S) (add : Bool) {more : List Tx} (hmn : more ≠ []) (hv : Vw (Old w) w sv 1 ((k :: more).length + 1) ((nm :: k :: more).map txt)) (hlow : lowL nm = chgB add) (hnm : nm.length ≤ 1099511627776)
    (hs : ∀ x ∈ nextL add (f k) more, x.length ≤ 1048576) (hl : (f k).length ≤ 274877906944) (hm : more.length ≤ 274877906944) :
    Calls Tryz.prog 12 #[.pointer (some ⟨p, 0, none⟩), sv] w (RunAt w0 w p n (numR (nextN add (f k) more)) (Sets (upd f k (nextL add (f k) more)))) := by
  have h1 := List.length_pos_iff.2 hmn
  refine at_run h (args := k :: more) (by simpa using hv) hlow hnm (by simp; omega) (by simp) (by cases add with | true => exact fits_sadd (by simp; omega) | false => exact fits_srem (by simp; omega)) (F := 43) (.inl ⟨rfl, by cases add with | true => exact .inl rfl | false => exact .inr rfl⟩) ?_
  exact serves_change (by decide) (hf k).1 (hf k).2 add hs hl hm (by have := h.num; omega) (by have := h.few; omega) fun S' c' e1 e2 e3 => ⟨hf.upd e1 (nextL_asc add _ _) e2, e3⟩
theorem run_card (h : At w0 o w p S c n) (hf : Sets f S) (hv : Vw (Old w) w sv 1 2 ([nm, k].map txt)) (hlow : lowL nm = scardB) (hnm : nm.length ≤ 1099511627776) :
    Calls Tryz.prog 12 #[.pointer (some ⟨p, 0, none⟩), sv] w (RunAt w0 w p n (numR (f k).length) (Sets f)) :=
  at_run h (args := [k]) hv hlow hnm (by simp) (by simp) fits_scard (.inr (.inl ⟨rfl, .inl rfl⟩)) (serves_card (by decide) (hf k).1 ⟨hf, c.near_refl⟩)
theorem run_ismember (h : At w0 o w p S c n) (hf : Sets f S) {x : Tx} (hv : Vw (Old w) w sv 1 3 ([nm, k, x].map txt)) (hlow : lowL nm = sismemberB) (hnm : nm.length ≤ 1099511627776) (hl : (f k).length ≤ 1099511627776) :
    Calls Tryz.prog 12 #[.pointer (some ⟨p, 0, none⟩), sv] w (RunAt w0 w p n (numR (if decide (x ∈ f k) = true then 1 else 0)) (Sets f)) :=
  at_run h (args := [k, x]) hv hlow hnm (by simp) (by simp) fits_sismember (.inr (.inl ⟨rfl, .inr (.inl rfl)⟩)) (serves_ismember (by decide) (hf k).1 hl x ⟨hf, c.near_refl⟩)
theorem run_members (h : At w0 o w p S c n) (hf : Sets f S) (hv : Vw (Old w) w sv 1 2 ([nm, k].map txt)) (hlow : lowL nm = smembersB) (hnm : nm.length ≤ 1099511627776) (hl : (f k).length ≤ 1099511627776) :
    Calls Tryz.prog 12 #[.pointer (some ⟨p, 0, none⟩), sv] w (RunAt w0 w p n (bulksR (f k)) (Sets f)) :=
  at_run h (args := [k]) hv hlow hnm (by simp) (by simp) fits_smembers (.inr (.inl ⟨rfl, .inr (.inr (.inr rfl))⟩)) (serves_members (by decide) (hf k).1 hl ⟨hf, c.near_refl⟩)
theorem fits_u {low : Tx} {way : Nat} (h : UName low way) {n : Nat} (hn : 2 ≤ n) : Fits low n := by
  rcases h with ⟨_, rfl⟩ | ⟨_, rfl⟩ | ⟨_, rfl⟩
  · exact fits_sinter hn
  · exact fits_sunion hn
  · exact fits_sdiff hn
theorem fits_s {low : Tx} {way : Nat} (h : SName low way) {n : Nat} (hn : 3 ≤ n) : Fits low n := by
  rcases h with ⟨_, rfl⟩ | ⟨_, rfl⟩ | ⟨_, rfl⟩
  · exact fits_sinterstore hn
  · exact fits_sunionstore hn
  · exact fits_sdiffstore hn
theorem ofL_snoc {B : List Tx} (h : Asc B) {m : Tx} (hn : ¬ 0 < ((ofL (B ++ [m])).length : Int) - ((ofL B).length : Int)) : ofL (B ++ [m]) = B := nextL_same true h hn
/-- What a move makes of what the keys hold. -/
def mvF (f : Tx → List Tx) (k d m : Tx) : Tx → List Tx := if m ∈ f k then upd (upd f k (lessL (f k) [m])) d (ofL (f d ++ [m])) else f
theorem layS_list {S : SP} {now : Int} {k j : Tx} {l : List Tx} (hjk : j ≠ k) (d : Int) (n : Nat) : (S.layS now k l d n).at now j = S.at now j := by
  unfold SP.at; rw [layS_far hjk]
theorem run_move (h : At w0 o w p S c n) (hn : n ≤ 1099511620000) (hf : Sets f S) {d x : Tx} (hkd : k ≠ d) (hv : Vw (Old w) w sv 1 4 ([nm, k, d, x].map txt)) (hlow : lowL nm = smoveB) (hnm : nm.length ≤ 1099511627776)
    (hs1 : ∀ y ∈ f k, y.length ≤ 1048576) (hs2 : ∀ y ∈ f d, y.length ≤ 1048576) (hl1 : (f k).length ≤ 1099511627) (hl2 : (f d).length ≤ 1099511627) :
    Calls Tryz.prog 12 #[.pointer (some ⟨p, 0, none⟩), sv] w (RunAt w0 w p n (numR (if x ∈ f k then 1 else 0)) (Sets (mvF f k d x))) := by
  refine at_run h (args := [k, d, x]) hv hlow hnm (by simp) (by simp) fits_smove (F := 46) (.inr (.inr (.inr (.inl ⟨rfl, rfl⟩)))) ?_
  intro o1 w1 cb m sv hj hm0 hB1 hcb hv
  obtain ⟨e1, e2, e3, e4⟩ := (hf k).1.at 0
  obtain ⟨g1, g2, g3, g4⟩ := (hf d).1.at 0
  by_cases hin : x ∈ f k
  · rw [if_pos hin]
    have := smove_yes hj (by decide) hm0 hcb hkd (by simpa using hv) (A := f k) (B := f d) hin e1 g1 e2 g2 (fun y hy => hs1 y ((lessL_mem _ _ _).1 hy).1) (fun y hy => by
      rw [ofL_mem, List.mem_append, List.mem_singleton] at hy
      rcases hy with hy | rfl
      · exact hs2 y hy
      · exact hs1 y hin) (by omega) (by omega) (by have := h.num; omega) (by have := h.few; omega)
    refine this.mono fun e w' h => RepJ.repL h ⟨?_, ?_⟩
    · unfold mvF
      rw [if_pos hin]
      have hS1 : Sets (upd f k (lessL (f k) [x])) (S.layS 0 k (lessL (f k) [x]) ((S.at 0 k).getD hd0).due (c.num + 1)) := by
        rw [e3]
        exact hf.upd ((hf k).1.lay 0 _ _) (lessL_asc _ _) fun j hj => layS_far hj _ _ _
      unfold SP.mvS
      dsimp only
      have hd1 := hS1 d
      rw [upd_far (Ne.symm hkd)] at hd1
      obtain ⟨_, _, i3, _⟩ := hd1.1.at 0
      split
      · rw [i3]
        exact hS1.upd (hd1.1.lay 0 _ _) (ofL_asc _) fun j hj => layS_far hj _ _ _
      · rename_i h0
        rw [ofL_snoc (hf d).2 h0]
        have e : upd (upd f k (lessL (f k) [x])) d (f d) = upd f k (lessL (f k) [x]) := by
          funext j
          by_cases hj : j = d
          · subst hj; rw [upd_same, upd_far (Ne.symm hkd)]
          · rw [upd_far hj]
        rw [e]; exact hS1
    · unfold Cnt.mvS
      dsimp only
      have a1 := layS_near c (S.at 0 k).isSome (lessL (f k) [x])
      split
      · have a2 := layS_near (c.layS (S.at 0 k).isSome (lessL (f k) [x])) ((S.layS 0 k (lessL (f k) [x]) ((S.at 0 k).getD hd0).due (c.num + 1)).at 0 d).isSome (ofL (f d ++ [x]))
        exact ⟨by omega, by omega⟩
      · exact ⟨by omega, by omega⟩
  · rw [if_neg hin]
    have := smove_no hj (by decide) hcb (k := k) (d := d) (m0 := x) (by simpa using hv) hin e1 g1 e2 g2 (by omega)
    refine this.mono fun e w' h => RepJ.repL h ⟨?_, c.near_refl⟩
    unfold mvF; rw [if_neg hin]; exact hf
theorem run_join2 (h : At w0 o w p S c n) (hf : Sets f S) {low : Tx} {way : Nat} (hg : UName low way) {j : Tx} (hv : Vw (Old w) w sv 1 3 ([nm, k, j].map txt)) (hlow : lowL nm = low) (hnm : nm.length ≤ 1099511627776) (hl : (f k).length + (f j).length ≤ 274877906944) :
    Calls Tryz.prog 12 #[.pointer (some ⟨p, 0, none⟩), sv] w (RunAt w0 w p n (bulksR (joinL way (f k) [f j])) (fun S' => S' = S)) :=
  at_join h (args := [k, j]) hv hlow hnm (by simp) (by simp) (fits_u hg (by simp)) hg (l0 := f k) (R := [f j]) (hf.lists [k, j]) (hf.right [k, j]) (by simp; omega) (by simp)
end
set_option maxRecDepth 10000 in
set_option maxHeartbeats 4000000 in
theorem awake_ok {w : World} : Calls Tryz.prog 10 #[] w fun e w' => e = .returned (.bool true) ∧ Below w.heap.size w w' := by
  have HN := Lib.hid (jnew_ok none0 w [1])
  go_enter Tryz.func10, Tryz.ntmps10
  go_wp2_with fail
  refine HN.out.mono ?_; rintro e w1 ⟨p, o1, rfl, hj, hs⟩
  have h1 : At w o1 w1 p (fun _ => none) ⟨0, 0⟩ 0 := ⟨hj, hs, Nat.le_refl _, Nat.le_refl _⟩
  have H1 := Lib.hid h1
  clear hj hs h1 HN
  go_wp2_with fail
  refine (run_change (H1.out.below (lit_below w1 _)) (by decide) Sets.empty true (k := sB) (more := [bB, aB, bB]) (nm := [83, 65, 68, 68]) (by decide) (lit_vw w1 [[83, 65, 68, 68], sB, bB, aB, bB] (by decide)) (by decide) (by decide) (by decide) (by decide) (by decide)).mono ?_
  rintro e w2 ⟨v2, rfl, hv2, o2, S2, c2, h2, hK2, hB2⟩
  obtain ⟨a2, l2, rfl, _⟩ := id hv2.slice
  have H2 := Lib.hid h2
  have HK2 := Lib.hid hK2
  rw [show nextN true ((fun _ => []) sB) [bB, aB, bB] = 2 by decide +kernel]
  clear hv2 h2 hK2 hB2 H1
  go_wp2_with fail
  refine (lawnumber_ok _ _ _ _ _ _).mono ?_; rintro e w3 ⟨rfl, hB3⟩
  have H3 := Lib.hid (H2.out.below hB3)
  clear hB3 H2
  go_wp2_with fail
  refine (run_members (k := sB) (nm := smembersB) (H3.out.below (lit_below w3 _)) HK2.out (lit_vw w3 [smembersB, sB] (by decide)) (by decide) (by decide) (by decide)).mono ?_
  have ef : upd (fun _ => []) sB (nextL true [] [bB, aB, bB]) sB = [aB, bB] := by decide +kernel
  rw [ef]
  rintro e w4 ⟨v4, rfl, hv4, o4, S4, c4, h4, hK4, hB4⟩
  obtain ⟨a4, l4, rfl, _⟩ := id hv4.slice
  have H4 := Lib.hid h4
  have HK4 := Lib.hid hK4
  have HV4 := Lib.hid hv4
  clear hv4 h4 hK4 hB4 H3 HK2 ef
  go_wp2_with fail
  refine (lawbulks_ok (l := [aB, bB]) (HV4.out.below (lit_below w4 _)) (lit_vw w4 [aB, bB] (by decide)) (by decide)).mono ?_
  rintro e w5 ⟨rfl, hB5⟩
  have H5 := Lib.hid (H4.out.below ((lit_below w4 _).trans (hB5.mono (by simp))))
  clear hB5 H4 HV4
  go_wp2_with fail
  refine (run_change (H5.out.below (lit_below w5 _)) (by decide) HK4.out true (k := tB) (more := [bB, cB]) (nm := [115, 97, 100, 100]) (by decide) (lit_vw w5 [[115, 97, 100, 100], tB, bB, cB] (by decide)) (by decide) (by decide) (by decide +kernel) (by decide +kernel) (by decide)).mono ?_
  rw [show nextN true (upd (fun _ => []) sB (nextL true [] [bB, aB, bB]) tB) [bB, cB] = 2 by decide +kernel]
  rintro e w6 ⟨v6, rfl, hv6, o6, S6, c6, h6, hK6, hB6⟩
  obtain ⟨a6, l6, rfl, _⟩ := id hv6.slice
  have H6 := Lib.hid h6
  have HK6 := Lib.hid hK6
  clear hv6 h6 hK6 hB6 H5 HK4
  go_wp2_with fail
  refine (lawnumber_ok _ _ _ _ _ _).mono ?_; rintro e w7 ⟨rfl, hB7⟩
  have H7 := Lib.hid (H6.out.below hB7)
  clear hB7 H6
  go_wp2_with fail
  refine (run_join2 (k := sB) (j := tB) (nm := sdiffB) (low := sdiffB) (way := 2) (H7.out.below (lit_below w7 _)) HK6.out (.inr (.inr ⟨rfl, rfl⟩)) (lit_vw w7 [sdiffB, sB, tB] (by decide)) (by decide) (by decide) (by decide +kernel)).mono ?_
  generalize hg : joinL 2 _ _ = J
  have hJ : J = [aB] := by rw [← hg]; decide +kernel
  subst hJ
  clear hg
  rintro e w8 ⟨v8, rfl, hv8, o8, S8, c8, h8, hK8, hB8⟩
  obtain ⟨a8, l8, rfl, _⟩ := id hv8.slice
  have H8 := Lib.hid h8
  have HV8 := Lib.hid hv8
  clear hv8 h8 hK8 hB8 H7 HK6
  go_wp2_with fail
  refine (lawbulks_ok (l := [aB]) (HV8.out.below (lit_below w8 _)) (lit_vw w8 [aB] (by decide)) (by decide)).mono ?_
  rintro e w9 ⟨rfl, hB9⟩
  have HB := Lib.hid (H8.out.below ((lit_below w8 _).trans (hB9.mono (by simp)))).since
  clear hB9 H8 HV8
  go_wp2_with fail
  go_ret
  exact ⟨rfl, HB.out⟩
end Go.Proofs.YtoganolkgmilaaaGreatDoor
