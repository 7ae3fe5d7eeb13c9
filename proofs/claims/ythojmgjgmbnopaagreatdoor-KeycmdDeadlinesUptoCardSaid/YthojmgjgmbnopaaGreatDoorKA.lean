import Derived.Test.YthojmgjgmbnopaaGreatDoorHq
import Derived.Test.YthojmgjgmbnopaaGreatDoorLr
import Derived.Test.YthojmgjgmbnopaaGreatDoorHi
import Derived.Test.YthojmgjgmbnopaaGreatDoorHe
import Derived.Test.YthojmgjgmbnopaaGreatDoorQB
import Derived.ProofKit
import Derived.Test.YthojmgjgmbnopaaGreatDoorLA
import Derived.Test.YthojmgjgmbnopaaGreatDoorQD
namespace Go.Proofs.YthojmgjgmbnopaaGreatDoor
open Go Go.RowKit
/-! The law's run of a keycmd. -/
section
variable {o : Roles} {w : World} {q : List Nat} {p : Nat} {c : Cnt} {S : SP}
set_option maxRecDepth 10000 in
set_option maxHeartbeats 4000000 in
theorem klawrun_ok (h : SpJ o w q p S c) (hq : q ≠ []) {nm low : Tx} {args : List Tx} {sv : Value} {now : Int} (hnow : 0 ≤ now ∧ now ≤ 9007199254740992) (hv : Vw (fun b => b < w.heap.size ∧ ¬ q <+: o b) w sv 1 (args.length + 1) ((nm :: args).map txt)) (hlow : lowL nm = low) (hn : nm.length ≤ 1099511627776) (hl : args.length + 1 ≤ 1099511627776)
    (hft : Fits low (args.length + 1)) {F : FuncId} (hg : GoesK low F) {r : RP} {K : SP → Cnt → Prop} (hs : ServesK F w q p now S c low args r K) :
    Calls Tryz.prog 35 #[.pointer (some ⟨p, 0, none⟩), .int .i64 now, sv] w (RepL o w q p r K) := by
  obtain ⟨o1, m, hbg, hj⟩ := begin_roles h hq
  obtain ⟨a0, cap, rfl, _⟩ := id hv.slice
  have HRN := Lib.hid (kRun_ok (hj.below hbg.res.2) hq hnow ((hv.below hbg.res.2).imp (fun b hb => ⟨Nat.lt_of_lt_of_le hb.1 hbg.res.2.size, by rw [hbg.old b hb.1]; exact hb.2⟩)) hlow hn hl hft hg (r := r) (K := K)
    (fun o2 w2 cb m2 sv hj2 hm2 hB2 hcb hv2 => hs o2 w2 cb m2 sv hj2 hm2 (hbg.res.2.trans (hB2.mono hbg.res.2.size)) hcb hv2))
  have HBG := Lib.hid hbg
  have HR1 := Lib.hid hbg.res.1
  have HB1 := Lib.hid hbg.res.2
  clear h hbg hj hs hv hft hg hlow
  obtain ⟨kind, text, n, list⟩ := r
  unfold RunDid at HRN
  dsimp only at HRN
  go_enter Tryz.func35, Tryz.ntmps35
  go_wp2_with fail
  refine HRN.out.mono ?_; rintro e w2 ⟨v, rfl, hv, o2, S2, c2, hj2, hK2, hs2⟩
  obtain ⟨a2, cap2, rfl, _⟩ := id hv.slice
  have hB3 : Below w2.heap.size w2 (w2.alloc (.cells #[.int .i64 (kind : Int), .string ⟨text.toArray⟩, .int .i64 n, .slice a2 list.length cap2] 30)) := (Below.refl _ _).alloc (Nat.le_refl _) _
  have hr2 := (HR1.out.keep hs2 (HBG.out.aq 2).not).below hB3
  have hrc := hr2.cell
  have hrf := hr2.free
  have HJ3 := Lib.hid (hj2.below hB3)
  have HR3 := Lib.hid hr2
  have HV3 := Lib.hid (hv.below hB3)
  have HK := Lib.hid hK2
  have HS3 := Lib.hid ((HBG.out.st q).trans ((Stp.ofBelow q o1 HB1.out).trans (hs2.trans (Stp.ofBelow q o2 hB3))))
  clear hv hj2 hK2 hs2 hB3 hr2 HRN
  go_wp2_with fail
  obtain ⟨hj7, hs7⟩ := HBG.out.stored HJ3.out HR3.out HS3.out (.int .i64 (kind : Int)) (.string ⟨text.toArray⟩) (.int .i64 n) (.slice a2 list.length cap2)
  refine bodyPost_ret (v := repV kind text n (.slice a2 list.length cap2)) (by simp [results, Tryz.results35, go_sem, hrc]) rfl ⟨_, rfl, ?_, o2, S2, c2, hj7, HK.out, hs7⟩
  exact vw_four HV3.out (by simp)
end
end Go.Proofs.YthojmgjgmbnopaaGreatDoor
namespace Go.Proofs.YthojmgjgmbnopaaGreatDoor
open Go Go.RowKit
/-! keycmd's functions, as Run calls them. -/
section
variable {w : World} {q : List Nat} {p : Nat} {c : Cnt} {S : SP} {now : Int}
theorem vw_lt {o1 : Roles} {w1 : World} {sv : Value} {n : Nat} {xs : List Value} (hv : Vw (fun b => b < w1.heap.size ∧ ¬ q <+: o1 b) w1 sv 1 n xs) : Vw (Old w1) w1 sv 1 n xs := hv.imp fun _ hb => hb.1
theorem servesK_ping (hq : q ≠ []) {K : SP → Cnt → Prop} (hK : K S c) : ServesK 71 w q p now S c pingB [] ⟨1, [80, 79, 78, 71], 0, []⟩ K :=
  fun _ _ _ _ _ hj _ _ hcb hv => (kping_ok hj hq hcb (vw_lt hv)).mono fun _ _ hr => hr.repL hK
theorem servesK_exists (hq : q ≠ []) {ks : List Tx} (hl : ks.length ≤ 1099511627776) {K : SP → Cnt → Prop} (hK : K S c) : ServesK 71 w q p now S c existsB ks ⟨3, [], (cntL S now ks : Int), []⟩ K :=
  fun _ _ _ _ _ hj _ _ hcb hv => (kexists_ok hj hq hcb (vw_lt hv) hl).mono fun _ _ hr => hr.repL hK
theorem servesK_del (hq : q ≠ []) {ks : List Tx} (hl : ks.length ≤ 1099511) (hc : c.num ≤ 4611686018420000000) (hf : c.few ≤ 1099500000000) {K : SP → Cnt → Prop} (hK : K (delAll S c now ks).1 (delAll S c now ks).2.1) : ServesK 71 w q p now S c delB ks ⟨3, [], ((delAll S c now ks).2.2 : Int), []⟩ K :=
  fun _ _ _ _ _ hj hm _ hcb hv => (kdel_ok hj hq hm hcb hv hl hc hf).mono fun _ _ hr => hr.repL hK
theorem servesK_dbsize (hq : q ≠ []) {Ks L : List Tx} (hk : ∀ k, S k ≠ none → k ∈ Ks) (hn : Ks.length ≤ 1099511627776) (ha : Asc L) (hm : ∀ x, x ∈ L ↔ (S.at now x).isSome = true) {K : SP → Cnt → Prop} (hK : K S c) : ServesK 71 w q p now S c dbsizeB [] ⟨3, [], (L.length : Int), []⟩ K :=
  fun _ _ _ _ _ hj _ _ hcb hv => (kdbsize_ok hj hq hcb (vw_lt hv) hk hn ha hm).mono fun _ _ hr => hr.repL hK
theorem servesK_cursor (hq : q ≠ []) {K : SP → Cnt → Prop} (hK : K S c) : ServesK 69 w q p now S c scanB [[49]] ⟨2, cursErr, 0, []⟩ K :=
  fun _ _ _ _ _ hj _ _ hcb hv => (kscan_bad hj hq hcb (vw_lt hv)).mono fun _ _ hr => hr.repL hK
theorem servesK_nokey (hq : q ≠ []) {k d : Tx} (hS : S.at now k = none) {K : SP → Cnt → Prop} (hK : K S c) : ServesK 68 w q p now S c renameB [k, d] ⟨2, nokeyErr, 0, []⟩ K :=
  fun _ _ _ _ _ hj _ _ hcb hv => (kren_none hj hq hcb (vw_lt hv) hS).mono fun _ _ hr => hr.repL hK
theorem servesK_left (hq : q ≠ []) {k : Tx} (sub sec : Bool) (hnow : 0 ≤ now ∧ now ≤ 9007199254740992) {K : SP → Cnt → Prop} (hK : K S c) : ServesK 67 w q p now S c (leftB sub sec) [k] ⟨3, [], leftN sub sec now (S.at now k), []⟩ K :=
  fun _ _ _ _ _ hj _ _ hcb hv => (kleft_ok hj hq sub sec hcb hnow (vw_lt hv)).mono fun _ _ hr => hr.repL hK
theorem servesK_stay (hq : q ≠ []) {k : Tx} {H : Hd} (hS : S.at now k = some H) (hd : H.due = 0) {K : SP → Cnt → Prop} (hK : K S c) : ServesK 71 w q p now S c persistB [k] ⟨3, [], 0, []⟩ K :=
  fun _ _ _ _ _ hj _ _ hcb hv => (kpersist_no hj hq hcb (vw_lt hv) hS hd).mono fun _ _ hr => hr.repL hK
theorem servesK_persist (hq : q ≠ []) {k : Tx} {H : Hd} (hS : S.at now k = some H) (hd : H.due ≠ 0) (hc : c.num ≤ 4611686018427387000) (hf : c.few ≤ 1099511627000) {K : SP → Cnt → Prop} (hK : K (S.put k ⟨H.v, 0, c.num + 1⟩) c.next) : ServesK 71 w q p now S c persistB [k] ⟨3, [], 1, []⟩ K :=
  fun _ _ _ _ _ hj hm _ hcb hv => (kpersist_yes hj hq hcb hv hS hd hm hc hf).mono fun _ _ hr => hr.repL hK
end
end Go.Proofs.YthojmgjgmbnopaaGreatDoor
namespace Go.Proofs.YthojmgjgmbnopaaGreatDoor
open Go Go.RowKit
/-! KeycmdDeadlines: its runs. -/
abbrev kK : Tx := [107]
/-- The key holds "v" till d. -/
def DAt (S : SP) (d : Int) : Prop := ∃ j, S kK = some ⟨textV [118], d, j⟩
theorem DAt.live {S : SP} {d now : Int} (h : DAt S d) (hd : d = 0 ∨ now < d) : ∃ j, S.at now kK = some ⟨textV [118], d, j⟩ := by
  obtain ⟨j, h⟩ := h
  refine ⟨j, ?_⟩
  rw [SP.at_over h]
  have : Hd.over ⟨textV [118], d, j⟩ now = false := by
    unfold Hd.over
    rcases hd with rfl | hd
    · rfl
    · simp; intro _; omega
  rw [this]; rfl
theorem DAt.gone {S : SP} {d now : Int} (h : DAt S d) (hd : d ≠ 0) (hn : d ≤ now) : S.at now kK = none := by
  obtain ⟨j, h⟩ := h
  rw [SP.at_over h]
  have : Hd.over ⟨textV [118], d, j⟩ now = true := by
    unfold Hd.over
    simp [hd, hn]
  rw [this]; rfl
theorem DAt.put {S : SP} {d : Int} (j : Nat) : DAt (S.put kK ⟨textV [118], d, j⟩) d := ⟨j, by unfold SP.put; rw [if_pos rfl]⟩
/-- A reply of run, and where it leaves the law. -/
def KRun (w0 : World) (o : Roles) (w : World) (p : Nat) (n : Nat) (r : RP) (K : SP → Prop) (e : Ending) (w' : World) : Prop :=
  ∃ v, e = .returned (repV r.kind r.text r.n v) ∧ Vw (fun b => w.heap.size ≤ b) w' v 4 r.list.length (rfsC r.list) ∧ ∃ o' S' c', At w0 o' w' p S' c' (n + 2) ∧ K S' ∧ Stp [1] o w o' w'
section
variable {o : Roles} {w w0 : World} {p n : Nat} {c : Cnt} {S : SP}
theorem knear_next (c : Cnt) : c.near c.next := by unfold Cnt.near Cnt.next; exact ⟨by simp, by simp⟩
theorem knear_touch (c : Cnt) : c.near c.touch := by unfold Cnt.near Cnt.touch; exact ⟨by simp, by simp⟩
theorem kAt_lit (h : At w0 o w p S c n) (x : Obj) : At w0 (o.put w.heap.size [9]) (w.alloc x) p S c n := by
  have s1 : Stp [9] o w (o.put w.heap.size [9]) (w.alloc x) := ((Stp.refl [9] o w).alloc (r' := [9]) x w.heap.size rfl).trans (Stp.refl _ _ _)
  refine ⟨h.sp.keep s1 (by intro t ht; simp at ht), h.st.hide s1 (fun b _ => by unfold none0; simp), h.num, h.few⟩
theorem kLit_apart (o : Roles) (w : World) (xs : List Tx) (hn : xs.length ≤ 100) : Vw (fun b => b < (w.alloc (.cells (xs.map txt).toArray 9)).heap.size ∧ ¬ [1] <+: (o.put w.heap.size [9]) b) (w.alloc (.cells (xs.map txt).toArray 9)) (.slice (some ⟨w.heap.size, 0, none⟩) xs.length xs.length) 1 xs.length (xs.map txt) := by
  refine ⟨⟨_, _, rfl, Nat.le_refl _, by unfold maxLen; omega, .inr ⟨w.heap.size, 0, rfl, by simp, ⟨by simp, by rw [Roles.put_same]; decide⟩, fun k u hk => ?_⟩⟩, by simp⟩
  rw [Nat.zero_add]
  unfold World.cell?
  rw [heap_alloc_new]
  simpa using hk
/-- One run of a law: its words are written down anew. -/
theorem at_krun (h : At w0 o w p S c n) {low : Tx} {args : List Tx} {now : Int} (hnow : 0 ≤ now ∧ now ≤ 9007199254740992) (hlow : lowL low = low) (hn : low.length ≤ 100) (hl : args.length ≤ 90)
    (hft : Fits low (args.length + 1)) {F : FuncId} (hg : GoesK low F) {r : RP} {K : SP → Prop} (hs : ServesK F (w.alloc (.cells ((low :: args).map txt).toArray 9)) [1] p now S c low args r (fun S' c' => K S' ∧ c.near c')) :
    Calls Tryz.prog 35 #[.pointer (some ⟨p, 0, none⟩), .int .i64 now, .slice (some ⟨w.heap.size, 0, none⟩) (args.length + 1) (args.length + 1)] (w.alloc (.cells ((low :: args).map txt).toArray 9)) (KRun w0 (o.put w.heap.size [9]) (w.alloc (.cells ((low :: args).map txt).toArray 9)) p n r K) := by
  have hA := kAt_lit h (.cells ((low :: args).map txt).toArray 9)
  have hv := kLit_apart o w (low :: args) (by simp; omega)
  rw [List.length_cons] at hv
  refine (klawrun_ok hA.sp (by decide) hnow hv hlow (by omega) (by omega) hft hg hs).mono fun _ _ hr => ?_
  obtain ⟨v, rfl, hv', o', S', c', hj, hk, hst⟩ := hr
  exact ⟨v, rfl, hv', o', S', c', ⟨hj, hA.st.trans hst, by have := hA.num; have := hk.2.1; omega, by have := hA.few; have := hk.2.2; omega⟩, hk.1, hst⟩
theorem goes_pexpireat : GoesK pexpireatB 66 := ⟨14, by decide, by kernel_rfl⟩
theorem goes_persist : GoesK persistB 71 := ⟨12, by decide, by kernel_rfl⟩
theorem goes_exists : GoesK existsB 71 := ⟨5, by decide, by kernel_rfl⟩
theorem goes_left (sub sec : Bool) : GoesK (leftB sub sec) 67 := by
  cases sub <;> cases sec
  · exact ⟨15, by decide, by kernel_rfl⟩
  · exact ⟨8, by decide, by kernel_rfl⟩
  · exact ⟨17, by decide, by kernel_rfl⟩
  · exact ⟨22, by decide, by kernel_rfl⟩
theorem fits_pexpireat {n : Nat} (hn : 3 ≤ n) : Fits pexpireatB n := ⟨⟨pexpireatB, -3, true, false, 1, 1, 1⟩, by kernel_rfl, .inr ⟨by decide, by show (3 : Int) ≤ n; omega⟩, by decide⟩
theorem fits_persist : Fits persistB 2 := ⟨⟨persistB, 2, true, false, 1, 1, 1⟩, by kernel_rfl, .inl ⟨by decide, rfl⟩, by decide⟩
theorem fits_exists : Fits existsB 2 := ⟨⟨existsB, -2, false, false, 1, -1, 1⟩, by kernel_rfl, .inr ⟨by decide, by decide⟩, by decide⟩
theorem fits_left (sub sec : Bool) : Fits (leftB sub sec) 2 := by
  cases sub <;> cases sec
  · exact ⟨⟨petB, 2, false, false, 1, 1, 1⟩, by kernel_rfl, .inl ⟨by decide, rfl⟩, by decide⟩
  · exact ⟨⟨etB, 2, false, false, 1, 1, 1⟩, by kernel_rfl, .inl ⟨by decide, rfl⟩, by decide⟩
  · exact ⟨⟨pttlB, 2, false, false, 1, 1, 1⟩, by kernel_rfl, .inl ⟨by decide, rfl⟩, by decide⟩
  · exact ⟨⟨ttlB, 2, false, false, 1, 1, 1⟩, by kernel_rfl, .inl ⟨by decide, rfl⟩, by decide⟩
/-- TTL and its like. -/
theorem krun_left (H : At w0 o w p S c n) (sub sec : Bool) {now : Int} (hnow : 0 ≤ now ∧ now ≤ 9007199254740992) :
    Calls Tryz.prog 35 #[.pointer (some ⟨p, 0, none⟩), .int .i64 now, .slice (some ⟨w.heap.size, 0, none⟩) 2 2] (w.alloc (.cells ([leftB sub sec, kK].map txt).toArray 9)) (KRun w0 (o.put w.heap.size [9]) (w.alloc (.cells ([leftB sub sec, kK].map txt).toArray 9)) p n ⟨3, [], leftN sub sec now (S.at now kK), []⟩ (fun S' => S' = S)) :=
  at_krun (args := [kK]) H hnow (by cases sub <;> cases sec <;> decide) (by cases sub <;> cases sec <;> decide) (by decide) (fits_left sub sec) (goes_left sub sec) (servesK_left (by decide) sub sec hnow ⟨rfl, Cnt.near_refl _⟩)
/-- EXISTS. -/
theorem krun_exists (H : At w0 o w p S c n) {now : Int} (hnow : 0 ≤ now ∧ now ≤ 9007199254740992) :
    Calls Tryz.prog 35 #[.pointer (some ⟨p, 0, none⟩), .int .i64 now, .slice (some ⟨w.heap.size, 0, none⟩) 2 2] (w.alloc (.cells ([existsB, kK].map txt).toArray 9)) (KRun w0 (o.put w.heap.size [9]) (w.alloc (.cells ([existsB, kK].map txt).toArray 9)) p n ⟨3, [], (cntL S now [kK] : Int), []⟩ (fun S' => S' = S)) :=
  at_krun (args := [kK]) H hnow (by decide) (by decide) (by decide) fits_exists goes_exists (servesK_exists (by decide) (by decide) ⟨rfl, Cnt.near_refl _⟩)
/-- PEXPIREAT, a deadline ahead. -/
theorem krun_set (H : At w0 o w p S c n) (hT : Tbl w0) (hS : DAt S 0) {y : Tx} {due now : Int} (hy : parseN y = some due) (hyl : y.length ≤ 1000) (hd : 0 < due ∧ due ≤ 9007199254740992) (hnow : 0 ≤ now ∧ now < due) (hn : n ≤ 1000) :
    Calls Tryz.prog 35 #[.pointer (some ⟨p, 0, none⟩), .int .i64 now, .slice (some ⟨w.heap.size, 0, none⟩) 3 3] (w.alloc (.cells ([pexpireatB, kK, y].map txt).toArray 9)) (KRun w0 (o.put w.heap.size [9]) (w.alloc (.cells ([pexpireatB, kK, y].map txt).toArray 9)) p n ⟨3, [], 1, []⟩ (fun S' => DAt S' due)) := by
  have hA := kAt_lit H (.cells ([pexpireatB, kK, y].map txt).toArray 9)
  obtain ⟨j, hj⟩ := hS.live (now := now) (.inl rfl)
  have h1 := H.num
  have h2 := H.few
  exact at_krun (args := [kK, y]) H ⟨hnow.1, by omega⟩ (by decide) (by decide) (by simp) (fits_pexpireat (by simp)) goes_pexpireat
    (fun _ _ _ _ _ hsp hm hB hcb hv => (kexp_set hsp (by decide) hm ((hT.below hA.since).below hB) hcb (vw_lt hv) hy (by omega) (.inr ⟨rfl, by omega, hd.2, rfl⟩) hj (by omega) ⟨by omega, hd.2⟩ (by omega) (by omega)).mono fun _ _ hr => hr.repL ⟨DAt.put _, knear_next _⟩)
/-- PEXPIREAT, a deadline that is over. -/
theorem krun_drop (H : At w0 o w p S c n) (hT : Tbl w0) (hS : DAt S 0) {y : Tx} {due : Int} (hy : parseN y = some due) (hyl : y.length ≤ 1000) (hd : 0 < due ∧ due ≤ 9007199254740992) (hn : n ≤ 1000) :
    Calls Tryz.prog 35 #[.pointer (some ⟨p, 0, none⟩), .int .i64 due, .slice (some ⟨w.heap.size, 0, none⟩) 3 3] (w.alloc (.cells ([pexpireatB, kK, y].map txt).toArray 9)) (KRun w0 (o.put w.heap.size [9]) (w.alloc (.cells ([pexpireatB, kK, y].map txt).toArray 9)) p n ⟨3, [], 1, []⟩ (fun S' => S' kK = none)) := by
  have hA := kAt_lit H (.cells ([pexpireatB, kK, y].map txt).toArray 9)
  obtain ⟨j, hj⟩ := hS.live (now := due) (.inl rfl)
  have h1 := H.num
  have h2 := H.few
  exact at_krun (args := [kK, y]) H ⟨by omega, by omega⟩ (by decide) (by decide) (by simp) (fits_pexpireat (by simp)) goes_pexpireat
    (fun _ _ _ _ _ hsp hm hB hcb hv => (kexp_drop hsp (by decide) hm ((hT.below hA.since).below hB) hcb (vw_lt hv) hy (by omega) (.inr ⟨rfl, by omega, hd.2, rfl⟩) hj (Int.le_refl _) (by omega) (by omega)).mono fun _ _ hr => hr.repL ⟨by unfold SP.del; rw [if_pos rfl], knear_touch _⟩)
/-- PEXPIREAT with a word that forbids it. -/
theorem krun_refused (H : At w0 o w p S c n) (hT : Tbl w0) {y fl : Tx} (hfl : fl = [71, 84] ∨ fl = [76, 84] ∨ fl = [78, 88]) {due now : Int} (hS : DAt S due) (hy : parseN y = some due) (hyl : y.length ≤ 1000) (hd : 0 < due ∧ due ≤ 9007199254740992) (hnow : 0 ≤ now ∧ now < due) :
    Calls Tryz.prog 35 #[.pointer (some ⟨p, 0, none⟩), .int .i64 now, .slice (some ⟨w.heap.size, 0, none⟩) 4 4] (w.alloc (.cells ([pexpireatB, kK, y, fl].map txt).toArray 9)) (KRun w0 (o.put w.heap.size [9]) (w.alloc (.cells ([pexpireatB, kK, y, fl].map txt).toArray 9)) p n ⟨3, [], 0, []⟩ (fun S' => S' = S)) := by
  have hA := kAt_lit H (.cells ([pexpireatB, kK, y, fl].map txt).toArray 9)
  obtain ⟨j, hj⟩ := hS.live (now := now) (.inr hnow.2)
  exact at_krun (args := [kK, y, fl]) H ⟨hnow.1, by omega⟩ (by decide) (by decide) (by simp) (fits_pexpireat (by simp)) goes_pexpireat
    (fun _ _ _ _ _ hsp _ hB hcb hv => (kexp_refused hsp (by decide) ((hT.below hA.since).below hB) hcb (vw_lt hv) hfl hy (by omega) (.inr ⟨rfl, by omega, hd.2, rfl⟩) hj rfl (by omega)).mono fun _ _ hr => hr.repL ⟨rfl, Cnt.near_refl _⟩)
/-- PERSIST. -/
theorem krun_persist (H : At w0 o w p S c n) {due now : Int} (hS : DAt S due) (hd : 0 < due ∧ due ≤ 9007199254740992) (hnow : 0 ≤ now ∧ now < due) (hn : n ≤ 1000) :
    Calls Tryz.prog 35 #[.pointer (some ⟨p, 0, none⟩), .int .i64 now, .slice (some ⟨w.heap.size, 0, none⟩) 2 2] (w.alloc (.cells ([persistB, kK].map txt).toArray 9)) (KRun w0 (o.put w.heap.size [9]) (w.alloc (.cells ([persistB, kK].map txt).toArray 9)) p n ⟨3, [], 1, []⟩ (fun S' => DAt S' 0)) := by
  obtain ⟨j, hj⟩ := hS.live (now := now) (.inr hnow.2)
  have h1 := H.num
  have h2 := H.few
  exact at_krun (args := [kK]) H ⟨hnow.1, by omega⟩ (by decide) (by decide) (by decide) fits_persist goes_persist (servesK_persist (by decide) hj (show due ≠ 0 by omega) (by omega) (by omega) ⟨DAt.put _, knear_next _⟩)
theorem krun_stay (H : At w0 o w p S c n) {now : Int} (hS : DAt S 0) (hnow : 0 ≤ now ∧ now ≤ 9007199254740992) :
    Calls Tryz.prog 35 #[.pointer (some ⟨p, 0, none⟩), .int .i64 now, .slice (some ⟨w.heap.size, 0, none⟩) 2 2] (w.alloc (.cells ([persistB, kK].map txt).toArray 9)) (KRun w0 (o.put w.heap.size [9]) (w.alloc (.cells ([persistB, kK].map txt).toArray 9)) p n ⟨3, [], 0, []⟩ (fun S' => S' = S)) := by
  obtain ⟨j, hj⟩ := hS.live (now := now) (.inl rfl)
  exact at_krun (args := [kK]) H hnow (by decide) (by decide) (by decide) fits_persist goes_persist (servesK_stay (by decide) hj rfl ⟨rfl, Cnt.near_refl _⟩)
/-- A reply that is a number. -/
def NumK (w0 : World) (p n : Nat) (x : Int) (K : SP → Prop) (e : Ending) (w' : World) : Prop :=
  ∃ a cap, e = .returned (.agg #[.int .i64 3, .string ⟨#[]⟩, .int .i64 x, .slice a 0 cap]) ∧ ∃ o' S' c', At w0 o' w' p S' c' (n + 2) ∧ K S'
theorem KRun.num {x : Int} {K : SP → Prop} {e : Ending} {w' : World} (h : KRun w0 o w p n ⟨3, [], x, []⟩ K e w') : NumK w0 p n x K e w' := by
  obtain ⟨v, rfl, hv, o', S', c', h1, h2, -⟩ := h
  obtain ⟨a, cap, rfl, -⟩ := hv.slice
  exact ⟨a, cap, rfl, o', S', c', h1, h2⟩
theorem kis_same (w : World) {x y : Int} (h : x = y) (a : Option Addr) (cap : Nat) : Calls Tryz.prog 36 #[.agg #[.int .i64 3, .string ⟨#[]⟩, .int .i64 x, .slice a 0 cap], .int .i64 y] w fun e w' => e = .returned (.bool true) ∧ Below w.heap.size w w' := by
  subst h
  refine (kisInt_ok w 3 [] x x a 0 cap).mono ?_
  rintro e w' ⟨rfl, hB⟩
  exact ⟨by simp, hB⟩
theorem cnt_one {now : Int} {x : Hd} (h : S.at now kK = some x) : cntL S now [kK] = 1 := by unfold cntL; rw [List.filter_cons, h]; rfl
theorem cnt_zero {now : Int} (h : S.at now kK = none) : cntL S now [kK] = 0 := by unfold cntL; rw [List.filter_cons, h]; rfl
end
end Go.Proofs.YthojmgjgmbnopaaGreatDoor
namespace Go.Proofs.YthojmgjgmbnopaaGreatDoor
open Go Go.RowKit
/-! KeycmdDeadlines: the word of a deadline. -/
/-- As far as the word is written: what is left of the number, and what is written. -/
def DigRel (D : Nat) (word n : Value) : Prop := ∃ (t : Tx) (k : Nat), word = txt t ∧ n = .int .i64 (k : Int) ∧ k ≤ D ∧ ((k = 0 ∧ t = Lib.decDigits D) ∨ (0 < k ∧ Lib.decDigits D = Lib.decDigits k ++ t))
theorem dec_step {k : Nat} (h : ¬ k < 10) : Lib.decDigits k = Lib.decDigits (k / 10) ++ [UInt8.ofNat (48 + k % 10)] := by rw [Lib.decDigits, dif_neg h]
theorem dig_next {D k : Nat} {t : Tx} (hk : 0 < k) (hkD : k ≤ D) (h : Lib.decDigits D = Lib.decDigits k ++ t) : DigRel D (txt (UInt8.ofNat (48 + k % 10) :: t)) (.int .i64 ((k / 10 : Nat) : Int)) := by
  refine ⟨_, k / 10, rfl, rfl, by omega, ?_⟩
  by_cases h10 : k < 10
  · left
    refine ⟨by omega, ?_⟩
    rw [h, Lib.decDigits_one h10, Nat.mod_eq_of_lt h10]
    rfl
  · right
    refine ⟨by omega, ?_⟩
    rw [h, dec_step h10, List.append_assoc]
    rfl
theorem ten_cut : ∀ d : Nat, d < 10 → ByteArray.extract ⟨#[48, 49, 50, 51, 52, 53, 54, 55, 56, 57]⟩ (d : Int).toNat ((d : Int) + 1).toNat = ⟨#[UInt8.ofNat (48 + d)]⟩
  | 0, _ => rfl
  | 1, _ => rfl
  | 2, _ => rfl
  | 3, _ => rfl
  | 4, _ => rfl
  | 5, _ => rfl
  | 6, _ => rfl
  | 7, _ => rfl
  | 8, _ => rfl
  | 9, _ => rfl
  | d + 10, h => by omega
/-- One letter of the ten. -/
theorem ten_slice (w : World) (d : Nat) (hd : d < 10) : (Instr.slice 9 (.string ⟨#[48, 49, 50, 51, 52, 53, 54, 55, 56, 57]⟩) (some (.int .i64 (d : Int))) (some (.int .i64 ((d : Int) + 1))) none).run Tryz.prog w = .ok (.string ⟨#[UInt8.ofNat (48 + d)]⟩) w := by
  have hb : ((d : Int) + 1).toNat ≤ ByteArray.size ⟨#[48, 49, 50, 51, 52, 53, 54, 55, 56, 57]⟩ := by show ((d : Int) + 1).toNat ≤ 10; omega
  have h := run_slice_string (P := Tryz.prog) w 9 ⟨#[48, 49, 50, 51, 52, 53, 54, 55, 56, 57]⟩ .i64 .i64 (d : Int) ((d : Int) + 1) Tryz.underlying9 (by omega) (by omega) (by omega)
  rw [ten_cut d hd] at h
  exact h
end Go.Proofs.YthojmgjgmbnopaaGreatDoor
/- KEYCMD: a law's start for the evaluator; KeycmdNames. -/
namespace Go.Proofs.YthojmgjgmbnopaaGreatDoor
open Go Go.RowKit
/-- Where the start's blocks lie. -/
def rho0 (e6 e7 e8 : Spot) : Rho := fun k => if k = 1 then some ⟨1, 0, 1, 1⟩ else if k = 2 then some ⟨2, 0, 1, 1⟩ else if k = 6 then some e6 else if k = 7 then some e7 else if k = 8 then some e8 else none
theorem st0_get (k : Nat) : st0.heap.get k = if k = 2 then some (.cells true 1 (Tr.fill .nil 0 [.iface 319 (.pointer (some ⟨7, 0, none⟩))])) else if k = 1 then some (.cells true 1 (Tr.fill .nil 0 [.iface 319 (.pointer (some ⟨6, 0, none⟩))])) else none := by
  unfold st0
  simp only [Tr.get_set, Tr.get_nil]
theorem fill_one {x v : Value} {i : Nat} (h : (Tr.fill .nil 0 [x]).get i = some v) : i = 0 ∧ v = x := by
  rw [Tr.get_fill] at h
  split at h
  · rename_i hi
    have : i = 0 := by have := hi.2; simp at this; exact this
    subst this
    simp at h
    exact ⟨rfl, h.symm⟩
  · rw [Tr.get_nil] at h; cases h
theorem start_sim {W : World} (hT : Two W) (e8 : Spot) : ∃ e6 e7, Sim 5 W (rho0 e6 e7 e8) st0 W := by
  obtain ⟨⟨b1, o1, T1, f1, h1⟩, ⟨b2, o2, T2, f2, h2⟩⟩ := hT
  refine ⟨⟨b1, o1, 0, 0⟩, ⟨b2, o2, 0, 0⟩, ⟨Below.refl _ _, ?_, by decide, ?_, ?_, ?_, ?_⟩⟩
  · intro k hk
    have hk : 9 ≤ k := hk
    unfold rho0
    rw [if_neg (by omega), if_neg (by omega), if_neg (by omega), if_neg (by omega), if_neg (by omega)]
  · intro k e hk he
    unfold rho0 at he
    by_cases k1 : k = 1
    · rw [if_pos k1] at he; cases he; exact ⟨k1.symm, rfl⟩
    rw [if_neg k1] at he
    by_cases k2 : k = 2
    · rw [if_pos k2] at he; cases he; exact ⟨k2.symm, rfl⟩
    rw [if_neg k2, if_neg (by omega), if_neg (by omega), if_neg (by omega)] at he
    cases he
  · intro k a hk ha
    rw [st0_get] at ha
    unfold rho0
    by_cases k2 : k = 2
    · subst k2; exact ⟨_, rfl⟩
    rw [if_neg k2] at ha
    by_cases k1 : k = 1
    · subst k1; exact ⟨_, rfl⟩
    rw [if_neg k1] at ha
    cases ha
  · intro k a ha e he
    rw [st0_get] at ha
    by_cases k2 : k = 2
    · subst k2
      cases (Option.some.inj ha)
      cases (Option.some.inj (show some (⟨2, 0, 1, 1⟩ : Spot) = some e from he))
      refine ⟨_, h2, ⟨rfl, rfl, (fun h => by cases h), ?_⟩, (fun h => by cases h)⟩
      intro i v hv
      obtain ⟨rfl, rfl⟩ := fill_one hv
      refine ⟨_, rfl, .iface _ ?_⟩
      have := VR.ptr (ρ := rho0 ⟨b1, o1, 0, 0⟩ ⟨b2, o2, 0, 0⟩ e8) (k := 7) (e := ⟨b2, o2, 0, 0⟩) 0 rfl
      simpa using this
    rw [if_neg k2] at ha
    by_cases k1 : k = 1
    · subst k1
      cases (Option.some.inj ha)
      cases (Option.some.inj (show some (⟨1, 0, 1, 1⟩ : Spot) = some e from he))
      refine ⟨_, h1, ⟨rfl, rfl, (fun h => by cases h), ?_⟩, (fun h => by cases h)⟩
      intro i v hv
      obtain ⟨rfl, rfl⟩ := fill_one hv
      refine ⟨_, rfl, .iface _ ?_⟩
      have := VR.ptr (ρ := rho0 ⟨b1, o1, 0, 0⟩ ⟨b2, o2, 0, 0⟩ e8) (k := 6) (e := ⟨b1, o1, 0, 0⟩) 0 rfl
      simpa using this
    rw [if_neg k1] at ha
    cases ha
  · intro k k' a a' e e' ha ha' he he' hbb
    have two : ∀ j c f, st0.heap.get j = some c → rho0 ⟨b1, o1, 0, 0⟩ ⟨b2, o2, 0, 0⟩ e8 j = some f → f.b = j := by
      intro j c f hc hf
      rw [st0_get] at hc
      by_cases k2 : j = 2
      · subst k2; cases (Option.some.inj (show some (⟨2, 0, 1, 1⟩ : Spot) = some f from hf)); rfl
      rw [if_neg k2] at hc
      by_cases k1 : j = 1
      · subst k1; cases (Option.some.inj (show some (⟨1, 0, 1, 1⟩ : Spot) = some f from hf)); rfl
      rw [if_neg k1] at hc
      cases hc
    rw [← two k a e ha he, ← two k' a' e' ha' he', hbb]
theorem rho0_arg (e6 e7 e8 : Spot) : rho0 e6 e7 e8 8 = some e8 := rfl
theorem isT_spec {r : Option (Value × St)} (h : isT r = true) : ∃ st, r = some (.bool true, st) := by
  unfold isT at h
  split at h
  · exact ⟨_, rfl⟩
  · cases h
/-- A law of a number and a slice that the kernel has reckoned to be true. -/
theorem law_of {f : FuncId} {W : World} (hT : Two W) (n : Int) (v : Value) (hv : v = .slice none 0 0 ∨ ∃ b off m c, v = .slice (some ⟨b, off, none⟩) m c)
    (hr : ∀ v, isT (evCall X0 5 O0 1000 30 f [.int .i64 n, v] st0) = true) :
    Calls P f ⟨[.int .i64 n, v]⟩ W fun e W' => e = .returned (.bool true) ∧ Below W.heap.size W W' := by
  have fin : ∀ (u : Value) (e8 : Spot), (∀ e6 e7, VR (rho0 e6 e7 e8) u v) → Calls P f ⟨[.int .i64 n, v]⟩ W fun e W' => e = .returned (.bool true) ∧ Below W.heap.size W W' := by
    intro u e8 hu
    obtain ⟨e6, e7, hS⟩ := start_sim hT e8
    obtain ⟨st, h⟩ := isT_spec (hr u)
    refine (evCall_sound X0_ok (O0_ok 5 W) 1000 30 f _ _ _ _ h _ W [.int .i64 n, v] hS (.cons (.int _ _) (.cons (hu e6 e7) .nil))).mono ?_
    rintro e w' ⟨v', ρ', rfl, hvr, hS', -⟩
    cases hvr
    exact ⟨rfl, hS'.below⟩
  rcases hv with rfl | ⟨b, off, m, c, rfl⟩
  · exact fin (.slice none 0 0) ⟨0, 0, 0, 0⟩ fun _ _ => .nilSlice 0 0
  · refine fin (.slice (some ⟨8, 0, none⟩) m c) ⟨b, off, 0, 0⟩ fun e6 e7 => ?_
    have := VR.slice (ρ := rho0 e6 e7 ⟨b, off, 0, 0⟩) (k := 8) (e := ⟨b, off, 0, 0⟩) 0 m c c (rho0_arg _ _ _) (Nat.le_refl _) (.inl rfl)
    simpa using this
end Go.Proofs.YthojmgjgmbnopaaGreatDoor
/- KEYCMD: the law's own example holds in any world that has the library's two errors. -/
namespace Go.Proofs.YthojmgjgmbnopaaGreatDoor
open Go Go.RowKit
theorem Two.below {W W' : World} (h : Two W) (hB : Below W.heap.size W W') : Two W' := by
  obtain ⟨⟨b1, o1, T1, f1, h1⟩, ⟨b2, o2, T2, f2, h2⟩⟩ := h
  have l1 : 1 < W.heap.size := (Array.getElem?_eq_some_iff.1 h1).1
  have l2 : 2 < W.heap.size := (Array.getElem?_eq_some_iff.1 h2).1
  exact ⟨⟨b1, o1, T1, f1, by rw [hB.block _ l1]; exact h1⟩, ⟨b2, o2, T2, f2, by rw [hB.block _ l2]; exact h2⟩⟩
theorem sure_ok {W : World} (hT : Two W) : Calls Tryz.prog 29 #[] W fun e W' => e = .returned (.bool true) ∧ Below W.heap.size W W' := by
  obtain ⟨e6, e7, hS⟩ := start_sim hT ⟨0, 0, 0, 0⟩
  obtain ⟨st, h⟩ := isT_spec sure_reckoned
  refine (evCall_sound X0_ok (O0_ok 5 W) 1000 30 29 _ _ _ _ h _ W [] hS .nil).mono ?_
  rintro e w' ⟨v', ρ', rfl, hvr, hS', -⟩
  cases hvr
  exact ⟨rfl, hS'.below⟩
end Go.Proofs.YthojmgjgmbnopaaGreatDoor
namespace Go.Proofs.YthojmgjgmbnopaaGreatDoor
open Go Go.RowKit
/-! KeycmdDeadlines. -/
set_option maxRecDepth 10000 in
set_option maxHeartbeats 40000000 in
theorem deadlines_law {w0 : World} (hT : Tbl w0) (h2 : Two w0) (due now : Int) :
    Calls Tryz.prog 8 #[.int .i64 due, .int .i64 now] w0 fun e w' => e = .returned (.bool true) ∧ Below w0.heap.size w0 w' := by
  obtain ⟨D, hD⟩ : ∃ D : Nat, max 1 (min due 9007199254740992) = (D : Int) := ⟨(max 1 (min due 9007199254740992)).toNat, by omega⟩
  obtain ⟨N, hN⟩ : ∃ N : Nat, max 0 (min now ((D : Int) - 1)) = (N : Int) := ⟨(max 0 (min now ((D : Int) - 1))).toNat, by omega⟩
  have hb : 0 < D ∧ D ≤ 9007199254740992 ∧ N < D := by omega
  have HBD := Lib.hid hb
  have hw1 : IntKind.i64.wrap ((D : Int) - 1) = (D : Int) - 1 := by rw [IntKind.wrap_i64]; omega
  have hw2 : IntKind.i64.wrap ((D : Int) - (N : Int)) = (D : Int) - (N : Int) := by rw [IntKind.wrap_i64]; omega
  have HT := Lib.hid hT
  have H2W := Lib.hid h2
  have HN := Lib.hid (jnew_ok none0 w0 [1])
  have HTX := Lib.hid (fun W => klawtext_ok W [118])
  have h0 : (0 : Int) ≤ (D : Int) := by omega
  clear hT hb h2
  unfold txt at HTX
  go_enter Tryz.func8, Tryz.ntmps8
  go_wp2_with fail
  refine HN.out.mono ?_; rintro e w1 ⟨p, o1, rfl, hj, hs⟩
  have h1 : At w0 o1 w1 p (fun _ => none) ⟨0, 0⟩ 0 := ⟨hj, hs, Nat.le_refl _, Nat.le_refl _⟩
  have H1 := Lib.hid h1
  clear hj hs h1 HN
  go_wp2_with fail
  refine (HTX.out _).mono ?_; rintro e w2 ⟨rfl, hB2⟩
  have hp := jput_ok ((H1.out.below hB2).sp) kK (val3_text (fun _ => False) w2 [118]) ⟨by decide, by simp, by simp, by simp⟩ (fun b hb => hb.elim) 0 (by decide) (fun W _ => vcheck_text (val3_text (fun _ => False) W [118]) rfl rfl rfl rfl (by decide)) (by decide) (by decide)
  have H2 := Lib.hid (H1.out.below hB2)
  have HP := Lib.hid hp
  clear hB2 hp H1 HTX
  go_wp2_with fail
  refine HP.out.mono ?_; rintro e w3 ⟨rfl, o3, hj3, hs3⟩
  have h3 : At w0 o3 w3 p _ _ 2 := ⟨hj3, H2.out.st.trans hs3, by decide, by decide⟩
  obtain ⟨S3, hS3⟩ : ∃ S3, S3 = SP.put (fun _ => none) kK ⟨textV [118], 0, 0 + 1⟩ := ⟨_, rfl⟩
  have HD3 := Lib.hid (show DAt S3 0 by rw [hS3]; exact DAt.put _)
  obtain ⟨c3, hc3⟩ : ∃ c3, c3 = Cnt.next ⟨0, 0⟩ := ⟨_, rfl⟩
  change At w0 o3 w3 p (SP.put (fun _ => none) kK ⟨textV [118], 0, 0 + 1⟩) (Cnt.next ⟨0, 0⟩) 2 at h3
  rw [← hS3, ← hc3] at h3
  have H3 := Lib.hid h3
  clear hj3 hs3 h3 H2 HP hS3 hc3
  go_wp2_with fail
  go_loopw [6, 7] (fun a b wr => wr = w3 ∧ DigRel D a b) (fun _ b _ => (intOf b).toNat)
  case atStart => exact ⟨rfl, [], D, rfl, rfl, Nat.le_refl _, .inr ⟨HBD.out.1, (List.append_nil _).symm⟩⟩
  case round =>
    obtain ⟨rfl, t, k, rfl, rfl, hkD, hk⟩ := hrel
    unfold txt
    rcases hk with ⟨rfl, rfl⟩ | ⟨hk, hdk⟩
    · have HY := Lib.hid (show parseN (Lib.decDigits D) = some (D : Int) by rw [← Lib.itoa_nonneg]; exact parseN_itoa (by have := HBD.out; omega))
      have HYL := Lib.hid (show (Lib.decDigits D).length ≤ 1000 by rw [← Lib.itoa_nonneg]; exact Nat.le_trans (itoa_len (by have := HBD.out; omega)) (by decide))
      generalize Lib.decDigits D = y at *
      have HR4 := Lib.hid ((krun_set H3.out HT.out HD3.out HY.out HYL.out (due := (D : Int)) (now := (N : Int)) (by have := HBD.out; omega) (by have := HBD.out; omega) (by decide)).mono fun _ _ h => h.num)
      go_wp2_with fail
      refine HR4.out.mono ?_; rintro e w4 ⟨a4, l4, rfl, o4, S4, c4, h4, hK4⟩
      have HK4 := Lib.hid hK4
      clear hK4
      have H4 := Lib.hid h4
      clear h4 HR4 H3
      go_wp2_with fail
      refine (kis_same _ rfl _ _).mono ?_; rintro e w5 ⟨rfl, hB5⟩
      have H5 := Lib.hid (H4.out.below hB5)
      clear hB5 H4
      have HR6 := Lib.hid ((krun_left H5.out false false (now := (N : Int)) (by have := HBD.out; omega)).mono fun _ _ h => h.num)
      go_wp2_with fail
      refine HR6.out.mono ?_; rintro e w6 ⟨a6, l6, rfl, o6, S6, c6, h6, hK6⟩
      subst hK6
      have H6 := Lib.hid h6
      clear h6 HR6 H5
      go_wp2_with fail
      refine (kis_same _ (by obtain ⟨j, hj⟩ := HK4.out.live (now := (N : Int)) (.inr (by have := HBD.out; omega)); rw [hj]; show (if (D : Int) = 0 then -1 else leftD false false (N : Int) (D : Int)) = _; rw [if_neg (by have := HBD.out; omega)]; rfl) _ _).mono ?_; rintro e w7 ⟨rfl, hB7⟩
      have H7 := Lib.hid (H6.out.below hB7)
      clear hB7 H6
      have HR8 := Lib.hid ((krun_left H7.out true false (now := (N : Int)) (by have := HBD.out; omega)).mono fun _ _ h => h.num)
      go_wp2_with fail
      refine HR8.out.mono ?_; rintro e w8 ⟨a8, l8, rfl, o8, S8, c8, h8, hK8⟩
      subst hK8
      have H8 := Lib.hid h8
      clear h8 HR8 H7
      go_wp2_with fail
      refine (kis_same _ (by obtain ⟨j, hj⟩ := HK4.out.live (now := (N : Int)) (.inr (by have := HBD.out; omega)); rw [hj]; show (if (D : Int) = 0 then -1 else leftD true false (N : Int) (D : Int)) = _; rw [if_neg (by have := HBD.out; omega)]; rfl) _ _).mono ?_; rintro e w9 ⟨rfl, hB9⟩
      have H9 := Lib.hid (H8.out.below hB9)
      clear hB9 H8
      obtain ⟨X, hX⟩ : ∃ X : Int, ((D : Int) - (N : Int) + 999) / 1000 = X := ⟨_, rfl⟩
      have hx : 1000 * X - ((D : Int) - (N : Int)) ≥ 0 ∧ 1000 * (X - 1) < (D : Int) - (N : Int) ∧ 0 < X ∧ X ≤ 9007199254740992 := by have := HBD.out; omega
      have hx1 : ¬ (1000 * X < (D : Int) - (N : Int)) := by omega
      have hx2 : ¬ ((D : Int) - (N : Int) ≤ 1000 * (X - 1)) := by omega
      have hx3 : IntKind.i64.wrap (1000 * X) = 1000 * X := by rw [IntKind.wrap_i64]; omega
      have hx4 : IntKind.i64.wrap (X - 1) = X - 1 := by rw [IntKind.wrap_i64]; omega
      have hx5 : IntKind.i64.wrap (1000 * (X - 1)) = 1000 * (X - 1) := by rw [IntKind.wrap_i64]; omega
      clear hx
      have hr10 := (krun_left H9.out true true (now := (N : Int)) (by have := HBD.out; omega)).mono fun _ _ h => h.num
      rw [show leftN true true (N : Int) (S8.at (N : Int) kK) = X from (by obtain ⟨j, hj⟩ := HK4.out.live (now := (N : Int)) (.inr (by have := HBD.out; omega)); rw [hj]; show (if (D : Int) = 0 then -1 else leftD true true (N : Int) (D : Int)) = _; rw [if_neg (by have := HBD.out; omega)]; exact hX)] at hr10
      have HR10 := Lib.hid hr10
      clear hr10
      go_wp2_with fail
      refine HR10.out.mono ?_; rintro e w10 ⟨a10, l10, rfl, o10, S10, c10, h10, hK10⟩
      subst hK10
      have H10 := Lib.hid h10
      clear h10 HR10 H9
      have hr11 := (krun_exists (H10.out.below (lit_below0 _ (.cells #[.int .i64 3, .string ⟨#[]⟩, .int .i64 X, .slice a10 0 l10] 30))) (now := (D : Int) - 1) (by have := HBD.out; omega)).mono fun _ _ h => h.num
      rw [show (World.alloc w10 (.cells #[.int .i64 3, .string ⟨#[]⟩, .int .i64 X, .slice a10 0 l10] 30)).heap.size = w10.heap.size + 1 by simp] at hr11
      have HR11 := Lib.hid hr11
      clear hr11
      go_wp2_with fail
      refine HR11.out.mono ?_; rintro e w11 ⟨a11, l11, rfl, o11, S11, c11, h11, hK11⟩
      subst hK11
      have H11 := Lib.hid h11
      clear h11 HR11 H10
      go_wp2_with fail
      refine (kis_same _ (by obtain ⟨j, hj⟩ := HK4.out.live (now := (D : Int) - 1) (.inr (by omega)); rw [cnt_one hj]; rfl) _ _).mono ?_; rintro e w12 ⟨rfl, hB12⟩
      have H12 := Lib.hid (H11.out.below hB12)
      clear hB12 H11
      have HR13 := Lib.hid ((krun_exists H12.out (now := (D : Int)) (by have := HBD.out; omega)).mono fun _ _ h => h.num)
      go_wp2_with fail
      refine HR13.out.mono ?_; rintro e w13 ⟨a13, l13, rfl, o13, S13, c13, h13, hK13⟩
      subst hK13
      have H13 := Lib.hid h13
      clear h13 HR13 H12
      go_wp2_with fail
      refine (kis_same _ (by rw [cnt_zero (HK4.out.gone (now := (D : Int)) (by have := HBD.out; omega) (Int.le_refl _))]; rfl) _ _).mono ?_; rintro e w14 ⟨rfl, hB14⟩
      have H14 := Lib.hid (H13.out.below hB14)
      clear hB14 H13
      have HR15 := Lib.hid ((krun_left H14.out true true (now := (D : Int)) (by have := HBD.out; omega)).mono fun _ _ h => h.num)
      go_wp2_with fail
      refine HR15.out.mono ?_; rintro e w15 ⟨a15, l15, rfl, o15, S15, c15, h15, hK15⟩
      subst hK15
      have H15 := Lib.hid h15
      clear h15 HR15 H14
      go_wp2_with fail
      refine (kis_same _ (by rw [HK4.out.gone (now := (D : Int)) (by have := HBD.out; omega) (Int.le_refl _)]; rfl) _ _).mono ?_; rintro e w16 ⟨rfl, hB16⟩
      have H16 := Lib.hid (H15.out.below hB16)
      clear hB16 H15
      have HR17 := Lib.hid ((krun_refused H16.out HT.out (.inl rfl) HK4.out HY.out HYL.out (due := (D : Int)) (now := (N : Int)) (by have := HBD.out; omega) (by have := HBD.out; omega)).mono fun _ _ h => h.num)
      go_wp2_with fail
      refine HR17.out.mono ?_; rintro e w17 ⟨a17, l17, rfl, o17, S17, c17, h17, hK17⟩
      subst hK17
      have H17 := Lib.hid h17
      clear h17 HR17 H16
      go_wp2_with fail
      refine (kis_same _ rfl _ _).mono ?_; rintro e w18 ⟨rfl, hB18⟩
      have H18 := Lib.hid (H17.out.below hB18)
      clear hB18 H17
      have HR19 := Lib.hid ((krun_refused H18.out HT.out (.inr (.inl rfl)) HK4.out HY.out HYL.out (due := (D : Int)) (now := (N : Int)) (by have := HBD.out; omega) (by have := HBD.out; omega)).mono fun _ _ h => h.num)
      go_wp2_with fail
      refine HR19.out.mono ?_; rintro e w19 ⟨a19, l19, rfl, o19, S19, c19, h19, hK19⟩
      subst hK19
      have H19 := Lib.hid h19
      clear h19 HR19 H18
      go_wp2_with fail
      refine (kis_same _ rfl _ _).mono ?_; rintro e w20 ⟨rfl, hB20⟩
      have H20 := Lib.hid (H19.out.below hB20)
      clear hB20 H19
      have HR21 := Lib.hid ((krun_refused H20.out HT.out (.inr (.inr rfl)) HK4.out HY.out HYL.out (due := (D : Int)) (now := (N : Int)) (by have := HBD.out; omega) (by have := HBD.out; omega)).mono fun _ _ h => h.num)
      go_wp2_with fail
      refine HR21.out.mono ?_; rintro e w21 ⟨a21, l21, rfl, o21, S21, c21, h21, hK21⟩
      subst hK21
      have H21 := Lib.hid h21
      clear h21 HR21 H20
      go_wp2_with fail
      refine (kis_same _ rfl _ _).mono ?_; rintro e w22 ⟨rfl, hB22⟩
      have H22 := Lib.hid (H21.out.below hB22)
      clear hB22 H21
      have HR23 := Lib.hid ((krun_persist H22.out HK4.out (due := (D : Int)) (now := (N : Int)) (by have := HBD.out; omega) (by have := HBD.out; omega) (by decide)).mono fun _ _ h => h.num)
      go_wp2_with fail
      refine HR23.out.mono ?_; rintro e w23 ⟨a23, l23, rfl, o23, S23, c23, h23, hK23⟩
      have HK23 := Lib.hid hK23
      clear hK23
      have H23 := Lib.hid h23
      clear h23 HR23 H22
      go_wp2_with fail
      refine (kis_same _ rfl _ _).mono ?_; rintro e w24 ⟨rfl, hB24⟩
      have H24 := Lib.hid (H23.out.below hB24)
      clear hB24 H23
      have HR25 := Lib.hid ((krun_stay H24.out (now := (N : Int)) HK23.out (by have := HBD.out; omega)).mono fun _ _ h => h.num)
      go_wp2_with fail
      refine HR25.out.mono ?_; rintro e w25 ⟨a25, l25, rfl, o25, S25, c25, h25, hK25⟩
      subst hK25
      have H25 := Lib.hid h25
      clear h25 HR25 H24
      go_wp2_with fail
      refine (kis_same _ rfl _ _).mono ?_; rintro e w26 ⟨rfl, hB26⟩
      have H26 := Lib.hid (H25.out.below hB26)
      clear hB26 H25
      have HR27 := Lib.hid ((krun_left H26.out true true (now := (D : Int)) (by have := HBD.out; omega)).mono fun _ _ h => h.num)
      go_wp2_with fail
      refine HR27.out.mono ?_; rintro e w27 ⟨a27, l27, rfl, o27, S27, c27, h27, hK27⟩
      subst hK27
      have H27 := Lib.hid h27
      clear h27 HR27 H26
      go_wp2_with fail
      refine (kis_same _ (by obtain ⟨j, hj⟩ := HK23.out.live (now := (D : Int)) (.inl rfl); rw [hj]; rfl) _ _).mono ?_; rintro e w28 ⟨rfl, hB28⟩
      have H28 := Lib.hid (H27.out.below hB28)
      clear hB28 H27
      have HR29 := Lib.hid ((krun_drop H28.out HT.out HK23.out HY.out HYL.out (due := (D : Int)) (by have := HBD.out; omega) (by decide)).mono fun _ _ h => h.num)
      go_wp2_with fail
      refine HR29.out.mono ?_; rintro e w29 ⟨a29, l29, rfl, o29, S29, c29, h29, hK29⟩
      have HK29 := Lib.hid hK29
      clear hK29
      have H29 := Lib.hid h29
      clear h29 HR29 H28
      go_wp2_with fail
      refine (kis_same _ rfl _ _).mono ?_; rintro e w30 ⟨rfl, hB30⟩
      have H30 := Lib.hid (H29.out.below hB30)
      clear hB30 H29
      have HR31 := Lib.hid ((krun_exists H30.out (now := (N : Int)) (by have := HBD.out; omega)).mono fun _ _ h => h.num)
      go_wp2_with fail
      refine HR31.out.mono ?_; rintro e w31 ⟨a31, l31, rfl, o31, S31, c31, h31, hK31⟩
      subst hK31
      have H31 := Lib.hid h31
      clear h31 HR31 H30
      go_wp2_with fail
      refine (kis_same _ (by rw [cnt_zero (SP.at_none HK29.out)]; rfl) _ _).mono ?_; rintro e w32 ⟨rfl, hB32⟩
      have H32 := Lib.hid (H31.out.below hB32)
      clear hB32 H31
      go_wp2_with fail
      refine (sure_ok (H2W.out.below H32.out.since)).mono ?_; rintro e w99 ⟨rfl, hB99⟩
      have HE := Lib.hid (H32.out.since.trans (hB99.mono H32.out.since.size))
      clear hB99 H32
      go_wp2_with fail
      go_ret
      exact ⟨rfl, HE.out⟩
    · have hm : Int.tmod (k : Int) 10 = ((k % 10 : Nat) : Int) := rfl
      have hq : Int.tdiv (k : Int) 10 = ((k / 10 : Nat) : Int) := rfl
      have hk0 : (0 : Int) < (k : Int) := by omega
      have hmb : k % 10 < 10 := Nat.mod_lt _ (by decide)
      have hsl := fun W => ten_slice W (k % 10) hmb
      have D' := Lib.hid (dig_next hk hkD hdk)
      have hw3 : IntKind.i64.wrap (((k % 10 : Nat) : Int)) = ((k % 10 : Nat) : Int) := by rw [IntKind.wrap_i64]; omega
      have hw4 : IntKind.i64.wrap (((k / 10 : Nat) : Int)) = ((k / 10 : Nat) : Int) := by have := HBD.out; rw [IntKind.wrap_i64]; omega
      have hw5 : IntKind.i64.wrap (((k % 10 : Nat) : Int) + 1) = ((k % 10 : Nat) : Int) + 1 := by rw [IntKind.wrap_i64]; omega
      have HM := Lib.hid (show k / 10 < k by omega)
      have hlt : ¬ 9223372036854775807 < 1 + t.length := by
        have h1 : (Lib.decDigits D).length ≤ 100 := by rw [← Lib.itoa_nonneg]; exact itoa_len (by have := HBD.out; omega)
        rw [hdk, List.length_append] at h1
        omega
      clear hdk hk hkD
      generalize k % 10 = m at *
      generalize k / 10 = k1 at *
      go_wp2_with fail
      have e1 : (ByteArray.mk #[48 + UInt8.ofNat m] ++ ByteArray.mk t.toArray) = ⟨(UInt8.ofNat (48 + m) :: t).toArray⟩ := by
        apply ByteArray.ext
        rw [ByteArray.data_append]
        show #[48 + UInt8.ofNat m] ++ t.toArray = (UInt8.ofNat (48 + m) :: t).toArray
        rw [UInt8.ofNat_add]
        simp
      refine ⟨⟨trivial, ?_⟩, ?_⟩
      · rw [e1]; exact D'.out
      · have := HM.out; simp [intOf]; omega
end Go.Proofs.YthojmgjgmbnopaaGreatDoor
namespace Go.Proofs.YthojmgjgmbnopaaGreatDoor
open Go Go.RowKit
/-! KeycmdDeadlines, as the card's text calls it. -/
theorem kDeadlines_con (W : World) (hT : Tbl W ∧ Two W) (due now : Int) : Calls Tryz.prog 8 #[.int .i64 due, .int .i64 now] W fun e w' => e = .returned (.bool true) ∧ Below W.heap.size W w' := deadlines_law hT.1 hT.2 due now
end Go.Proofs.YthojmgjgmbnopaaGreatDoor
