import Derived.Test.YthojmgjgmbnopaaGreatDoorJC
import Derived.Test.YthojmgjgmbnopaaGreatDoorJD
namespace Go.Proofs.YthojmgjgmbnopaaGreatDoor
open Go Go.RowKit
/-! What serves: incrby, decrby, incr, get, append. -/
def Rf.rp (r : Rf) : RP := ⟨r.kind, r.text, r.n, []⟩
section
variable {w : World} {q : List Nat} {p : Nat} {c : Cnt} {S : SP} {now : Int} {K : SP → Cnt → Prop}
theorem serves_get (hq : q ≠ []) {nm k : Tx} {V : VV} (hV : ((S.at now k).getD hd0).v = V) {ok : Bool} (hok : (S.at now k).isSome = ok) (hk1 : (ok && V.kind != 1) = false) (hK : K S c) :
    ServesT 103 w q p now S c nm [k] (Rf.rp (if ok then ⟨4, V.text, 0⟩ else ⟨5, [], 0⟩)) K :=
  fun _ _ _ _ _ hj _ _ hcb hv => (tget_ok hj hq hcb (hv.imp (fun _ hb => hb.1)) hV hok hk1).mono fun _ _ h => h.repL hK
theorem serves_incrby (hq : q ≠ []) (hT : Tbl w) (dec : Bool) {k y : Tx} {n : Int} (hy : parseN y = some n) (hyl : y.length ≤ 1099511627776) (hdn : dec = true → n ≠ -9223372036854775808) {V : VV} (hV : ((S.at now k).getD hd0).v = V) (hok : (S.at now k).isSome = true) (hk1 : V.kind = 1) {m : Int} (hm : parseN V.text = some m)
    (hc : c.num ≤ 4611686018427387000) (hf : c.few ≤ 1099511627000) {s : Int} (hs : s = m + (if dec then -n else n)) (hK : K (S.incS c now k s) (c.incS s)) :
    ServesT 102 w q p now S c (if dec then decrbyB else incrbyB) [k, y] (incF s).rp K :=
  fun _ _ _ _ _ hj hm1 hB hcb hv => (tincrby_ok hj hq hm1 (hT.below hB) dec hcb (hv.imp (fun _ hb => hb.1)) hy hyl hdn hV hok hk1 hm hc hf hs).mono fun _ _ h => h.repL hK
theorem serves_incr0 (hq : q ≠ []) (hT : Tbl w) {k : Tx} (hok : S.at now k = none) (hc : c.num ≤ 4611686018427387000) (hf : c.few ≤ 1099511627000) (hK : K (S.keepT now k [49] (c.num + 1)) c.next) :
    ServesT 102 w q p now S c incrB [k] (Rf.rp ⟨3, [], 1⟩) K :=
  fun _ _ _ _ _ hj hm1 hB hcb hv => (tincr0_ok hj hq hm1 (hT.below hB) hcb (hv.imp (fun _ hb => hb.1)) hok hc hf).mono fun _ _ h => h.repL hK
theorem serves_append (hq : q ≠ []) {nm k y : Tx} {V : VV} (hV : ((S.at now k).getD hd0).v = V) {ok : Bool} (hok : (S.at now k).isSome = ok) (hk1 : (ok && V.kind != 1) = false)
    (hl : V.text.length + y.length ≤ 1048576) (hc : c.num ≤ 4611686018427387000) (hf : c.few ≤ 1099511627000) (hK : K (S.keepT now k (V.text ++ y) (c.num + 1)) c.next) :
    ServesT 98 w q p now S c nm [k, y] (Rf.rp ⟨3, [], (V.text.length : Int) + (y.length : Int)⟩) K :=
  fun _ _ _ _ _ hj hm1 _ hcb hv => (tappend_ok hj hq hm1 hcb hv hV hok hk1 hl hc hf).mono fun _ _ h => h.repL hK
end
theorem goes_incr : Goes incrB 102 := by unfold Goes; kernel_rfl
theorem goes_incrby : Goes incrbyB 102 := by unfold Goes; kernel_rfl
theorem goes_decrby : Goes decrbyB 102 := by unfold Goes; kernel_rfl
theorem goes_get : Goes [103, 101, 116] 103 := by unfold Goes; kernel_rfl
theorem goes_append : Goes [97, 112, 112, 101, 110, 100] 98 := by unfold Goes; kernel_rfl
end Go.Proofs.YthojmgjgmbnopaaGreatDoor
namespace Go.Proofs.YthojmgjgmbnopaaGreatDoor
open Go Go.RowKit
/-! A law's runs of Run. -/
section
variable {o : Roles} {w : World} {q : List Nat} {p : Nat} {c : Cnt} {S : SP}
/-- A world that a law has come to, and the space it made. -/
structure At (w0 : World) (o : Roles) (w : World) (p : Nat) (S : SP) (c : Cnt) (n : Nat) : Prop where
  sp : SpJ o w [1] p S c
  st : Stp [1] none0 w0 o w
  num : c.num ≤ n
  few : c.few ≤ n
theorem At.below {w0 w' : World} {n : Nat} (h : At w0 o w p S c n) (hB : Below w.heap.size w w') : At w0 o w' p S c n := ⟨h.sp.below hB, h.st.trans (Stp.ofBelow _ _ hB), h.num, h.few⟩
theorem At.since {w0 : World} {n : Nat} (h : At w0 o w p S c n) : Below w0.heap.size w0 w := h.st.below0
theorem At.mono {w0 : World} {n n' : Nat} (h : At w0 o w p S c n) (hn : n ≤ n') : At w0 o w p S c n' := ⟨h.sp, h.st, Nat.le_trans h.num hn, Nat.le_trans h.few hn⟩
theorem At.vw {w0 : World} {n k sz : Nat} {v : Value} {xs : List Value} (h : At w0 o w p S c n) (hv : Vw (Old w0) w0 v sz k xs) : Vw (Old w) w v sz k xs := (hv.below h.since).imp (fun _ hb => Nat.lt_of_lt_of_le hb h.since.size)
theorem At.cell {w0 : World} {n : Nat} (h : At w0 o w p S c n) {b off : Nat} {u : Value} (hc : w0.cell? ⟨b, off, none⟩ = some u) : w.cell? ⟨b, off, none⟩ = some u := cell_below h.since hc
/-- A reply of Run, and where it leaves the law. -/
def RunT (w0 : World) (o : Roles) (w : World) (p : Nat) (n : Nat) (r : RP) (K : SP → Prop) (e : Ending) (w' : World) : Prop :=
  ∃ v, e = .returned (.tuple #[repV r.kind r.text r.n v, .bool true]) ∧ Vw (fun b => w.heap.size ≤ b) w' v 4 r.list.length (rfsC r.list) ∧ ∃ o' S' c', At w0 o' w' p S' c' (n + 2) ∧ K S' ∧ Stp [1] o w o' w'
theorem at_trun {w0 : World} {n : Nat} (h : At w0 o w p S c n) {nm low : Tx} {args : List Tx} {sv : Value} {now : Int} (hnow : 0 ≤ now ∧ now ≤ 9007199254740992) (hv : Vw (fun b => b < w.heap.size ∧ ¬ [1] <+: o b) w sv 1 (args.length + 1) ((nm :: args).map txt)) (hlow : lowL nm = low) (hn : nm.length ≤ 1099511627776) (hl : args.length + 1 ≤ 1099511627776) (hne : 0 < args.length)
    (hft : Fits low (args.length + 1)) {F : FuncId} (hg : Goes low F) {r : RP} {K : SP → Prop} (hs : ServesT F w [1] p now S c low args r (fun S' c' => K S' ∧ c.near c')) :
    Calls Tryz.prog 23 #[.pointer (some ⟨p, 0, none⟩), .int .i64 now, sv] w (RunT w0 o w p n r K) :=
  (tRun_ok h.sp (by decide) hnow hv hlow hn hl hne hft hg hs).mono fun _ _ hr => by
    obtain ⟨v, rfl, hv', o', S', c', hj, hk, hst⟩ := hr
    exact ⟨v, rfl, hv', o', S', c', ⟨hj, h.st.trans hst, by have := h.num; have := hk.2.1; omega, by have := h.few; have := hk.2.2; omega⟩, hk.1, hst⟩
end
theorem fits_two {low : Tx} (h : low = incrB ∨ low = [103, 101, 116]) : Fits low 2 := by
  rcases h with rfl | rfl
  · exact ⟨⟨incrB, 2, true, false, 1, 1, 1⟩, by kernel_rfl, .inl ⟨by decide, by decide⟩, by decide⟩
  · exact ⟨⟨[103, 101, 116], 2, false, false, 1, 1, 1⟩, by kernel_rfl, .inl ⟨by decide, by decide⟩, by decide⟩
theorem fits_three {low : Tx} (h : low = incrbyB ∨ low = decrbyB ∨ low = [97, 112, 112, 101, 110, 100]) : Fits low 3 := by
  rcases h with rfl | rfl | rfl
  · exact ⟨⟨incrbyB, 3, true, false, 1, 1, 1⟩, by kernel_rfl, .inl ⟨by decide, by decide⟩, by decide⟩
  · exact ⟨⟨decrbyB, 3, true, false, 1, 1, 1⟩, by kernel_rfl, .inl ⟨by decide, by decide⟩, by decide⟩
  · exact ⟨⟨[97, 112, 112, 101, 110, 100], 3, true, false, 1, 1, 1⟩, by kernel_rfl, .inl ⟨by decide, by decide⟩, by decide⟩
end Go.Proofs.YthojmgjgmbnopaaGreatDoor
namespace Go.Proofs.YthojmgjgmbnopaaGreatDoor
open Go Go.RowKit
/-! awake. -/
abbrev kB : Tx := [107]
set_option maxRecDepth 10000 in
theorem lawnumber_ok (w : World) (t : List UInt8) (n : Int) (a : Option Addr) (ln cap : Nat) : Calls Tryz.prog 19 #[.agg #[.int .i64 3, .string ⟨t.toArray⟩, .int .i64 n, .slice a ln cap], .int .i64 n] w fun e w' => e = .returned (.bool true) ∧ Below w.heap.size w w' := by
  go_enter Tryz.func19, Tryz.ntmps19
  go_wp2_with fail
  go_ret
  exact ⟨rfl, (Below.refl _ _).alloc (Nat.le_refl _) _⟩
set_option maxRecDepth 10000 in
theorem lawbulk_ok (w : World) (t : List UInt8) (n : Int) (a : Option Addr) (ln cap : Nat) : Calls Tryz.prog 18 #[.agg #[.int .i64 4, .string ⟨t.toArray⟩, .int .i64 n, .slice a ln cap], txt t] w fun e w' => e = .returned (.bool true) ∧ Below w.heap.size w w' := by
  unfold txt
  go_enter Tryz.func18, Tryz.ntmps18
  go_wp2_with fail
  go_ret
  exact ⟨rfl, (Below.refl _ _).alloc (Nat.le_refl _) _⟩
section
variable {o o' : Roles} {w w' w0 : World} {p n : Nat} {c : Cnt} {S : SP}
theorem At.app (h : At w0 o w p S c n) (x : Obj) (hs : Stp [9] (o.put w.heap.size [9]) (w.alloc x) o' w') : At w0 o' w' p S c n := by
  have s1 : Stp [9] o w o' w' := ((Stp.refl [9] o w).alloc (r' := [9]) x w.heap.size rfl).trans hs
  refine ⟨h.sp.keep s1 (by intro t ht; simp at ht), h.st.hide s1 (fun b _ => by unfold none0; simp), h.num, h.few⟩
/-- A slice of written texts, apart from the space. -/
theorem lit_apart (o : Roles) (w : World) (xs : List Tx) (hn : xs.length ≤ 100) : Vw (fun b => b < (w.alloc (.cells (xs.map txt).toArray 9)).heap.size ∧ ¬ [1] <+: (o.put w.heap.size [9]) b) (w.alloc (.cells (xs.map txt).toArray 9)) (.slice (some ⟨w.heap.size, 0, none⟩) xs.length xs.length) 1 xs.length (xs.map txt) := by
  refine ⟨⟨_, _, rfl, Nat.le_refl _, by unfold maxLen; omega, .inr ⟨w.heap.size, 0, rfl, by simp, ⟨by simp, by rw [Roles.put_same]; decide⟩, fun k u hk => ?_⟩⟩, by simp⟩
  rw [Nat.zero_add]
  unfold World.cell?
  rw [heap_alloc_new]
  simpa using hk
theorem At.lit (h : At w0 o w p S c n) (x : Obj) : At w0 (o.put w.heap.size [9]) (w.alloc x) p S c n := h.app x (Stp.refl _ _ _)
end
set_option maxRecDepth 10000 in
set_option maxHeartbeats 4000000 in
theorem awake_ok {w : World} (hT : Tbl w) : Calls Tryz.prog 16 #[] w fun e w' => e = .returned (.bool true) ∧ Below w.heap.size w w' := by
  have HN := Lib.hid (jnew_ok none0 w [1])
  have HT := Lib.hid hT
  clear hT
  go_enter Tryz.func16, Tryz.ntmps16
  go_wp2_with fail
  refine HN.out.mono ?_; rintro e w1 ⟨p, o1, rfl, hj, hs⟩
  have h1 : At w o1 w1 p (fun _ => none) ⟨0, 0⟩ 0 := ⟨hj, hs, Nat.le_refl _, Nat.le_refl _⟩
  have H1 := Lib.hid h1
  clear hj hs h1 HN
  go_wp2_with fail
  refine (at_trun (now := 0) (args := [kB]) (nm := [73, 78, 67, 82]) (low := incrB) (K := fun S' => S' = SP.keepT (fun _ => none) 0 kB [49] 1) (H1.out.lit _) (by decide) (lit_apart o1 w1 [[73, 78, 67, 82], kB] (by decide)) (by decide) (by decide) (by decide) (by decide) (fits_two (.inl rfl)) goes_incr
    (serves_incr0 (by decide) (HT.out.below ((H1.out.lit _).since)) rfl (by decide) (by decide) ⟨rfl, by unfold Cnt.near; decide⟩)).mono ?_
  rintro e w2 ⟨v2, rfl, hv2, o2, S2, c2, h2, hK2, hB2⟩
  obtain ⟨a2, l2, rfl, _⟩ := id hv2.slice
  subst hK2
  have H2 := Lib.hid h2
  clear hv2 h2 hB2 H1
  simp only [Rf.rp]
  go_wp2_with fail
  have hA2 := (H2.out.lit (.cells #[.int .i64 3, .string ⟨#[]⟩, .int .i64 1, .slice a2 0 l2] 30)).lit (.cells ([[97, 112, 112, 101, 110, 100], kB, [48]].map txt).toArray 9)
  have hb2 : Blk (o2.put w2.heap.size [9]) (w2.alloc (.cells #[.int .i64 3, .string ⟨#[]⟩, .int .i64 1, .slice a2 0 l2] 30)) [9] w2.heap.size #[.int .i64 3, .string ⟨#[]⟩, .int .i64 1, .slice a2 0 l2] 30 := ⟨heap_alloc_new _ _, Roles.put_same _ _ _⟩
  have hb2' : Blk ((o2.put w2.heap.size [9]).put (w2.heap.size + 1) [9]) ((w2.alloc (.cells #[.int .i64 3, .string ⟨#[]⟩, .int .i64 1, .slice a2 0 l2] 30)).alloc (.cells ([[97, 112, 112, 101, 110, 100], kB, [48]].map txt).toArray 9)) [9] w2.heap.size #[.int .i64 3, .string ⟨#[]⟩, .int .i64 1, .slice a2 0 l2] 30 := by
    have h := hb2.below (lit_below0 _ (.cells ([[97, 112, 112, 101, 110, 100], kB, [48]].map txt).toArray 9))
    exact ⟨h.heap, by rw [Roles.put_other (by omega)]; exact h.role⟩
  have HBA := Lib.hid hb2'
  clear hb2 hb2'
  have hv3 := lit_apart (o2.put w2.heap.size [9]) (w2.alloc (.cells #[.int .i64 3, .string ⟨#[]⟩, .int .i64 1, .slice a2 0 l2] 30)) [[97, 112, 112, 101, 110, 100], kB, [48]] (by decide)
  rw [show (w2.alloc (.cells #[.int .i64 3, .string ⟨#[]⟩, .int .i64 1, .slice a2 0 l2] 30)).heap.size = w2.heap.size + 1 by simp] at hA2 hv3
  have hrun := at_trun (now := 0) (args := [kB, [48]]) (nm := [97, 112, 112, 101, 110, 100]) (low := [97, 112, 112, 101, 110, 100]) (K := fun S' => S' = SP.keepT (SP.keepT (fun _ => none) 0 kB [49] 1) 0 kB [49, 48] (c2.num + 1)) hA2 (by decide) hv3 (by decide) (by decide) (by decide) (by decide) (fits_three (.inr (.inr rfl))) goes_append
    (serves_append (V := textV [49]) (ok := true) (by decide) rfl rfl rfl (by decide) (by have := H2.out.num; omega) (by have := H2.out.few; omega) ⟨rfl, by unfold Cnt.near Cnt.next; exact ⟨by simp, by simp⟩⟩)
  simp only [Rf.rp] at hrun
  have HRUN := Lib.hid hrun
  clear hA2 hv3 hrun
  refine HRUN.out.mono ?_
  rintro e w3 ⟨v3, rfl, hv3, o3, S3, c3, h3, hK3, hB3⟩
  obtain ⟨a3, l3, rfl, _⟩ := id hv3.slice
  subst hK3
  have H3 := Lib.hid h3
  have HBC := Lib.hid (HBA.out.keep hB3 (by decide))
  clear HBA
  clear hv3 h3 hB3 H2 HRUN
  rw [show ((textV [49]).text.length : Int) + (([48] : Tx).length : Int) = 2 by decide]
  go_wp2_with fail
  have hA3 := (H3.out.lit (.cells #[.int .i64 3, .string ⟨#[]⟩, .int .i64 2, .slice a3 0 l3] 30)).lit (.cells ([[103, 101, 116], kB].map txt).toArray 9)
  have hb3 : Blk ((o3.put w3.heap.size [9]).put (w3.heap.size + 1) [9]) ((w3.alloc (.cells #[.int .i64 3, .string ⟨#[]⟩, .int .i64 2, .slice a3 0 l3] 30)).alloc (.cells ([[103, 101, 116], kB].map txt).toArray 9)) [9] w3.heap.size #[.int .i64 3, .string ⟨#[]⟩, .int .i64 2, .slice a3 0 l3] 30 :=
    ⟨by rw [Below.heap_alloc _ _ _ (by simp)]; exact heap_alloc_new _ _, by rw [Roles.put_other (by omega)]; exact Roles.put_same _ _ _⟩
  have hb2 : Blk ((o3.put w3.heap.size [9]).put (w3.heap.size + 1) [9]) ((w3.alloc (.cells #[.int .i64 3, .string ⟨#[]⟩, .int .i64 2, .slice a3 0 l3] 30)).alloc (.cells ([[103, 101, 116], kB].map txt).toArray 9)) [9] w2.heap.size #[.int .i64 3, .string ⟨#[]⟩, .int .i64 1, .slice a2 0 l2] 30 := by
    have hl := HBC.out.lt
    have h := (HBC.out.below (lit_below0 w3 (.cells #[.int .i64 3, .string ⟨#[]⟩, .int .i64 2, .slice a3 0 l3] 30))).below (lit_below0 _ (.cells ([[103, 101, 116], kB].map txt).toArray 9))
    exact ⟨h.heap, by rw [Roles.put_other (by omega), Roles.put_other (by omega)]; exact h.role⟩
  have HX2 := Lib.hid hb2
  have HX3 := Lib.hid hb3
  clear hb2 hb3 HBC
  have hv4 := lit_apart (o3.put w3.heap.size [9]) (w3.alloc (.cells #[.int .i64 3, .string ⟨#[]⟩, .int .i64 2, .slice a3 0 l3] 30)) [[103, 101, 116], kB] (by decide)
  rw [show (w3.alloc (.cells #[.int .i64 3, .string ⟨#[]⟩, .int .i64 2, .slice a3 0 l3] 30)).heap.size = w3.heap.size + 1 by simp] at hA3 hv4
  obtain ⟨S4, hS4⟩ : ∃ S4, S4 = SP.keepT (SP.keepT (fun _ => none) 0 kB [49] 1) 0 kB [49, 48] (c2.num + 1) := ⟨_, rfl⟩
  rw [← hS4] at hA3
  have hrun := at_trun (now := 0) (args := [kB]) (nm := [103, 101, 116]) (low := [103, 101, 116]) (K := fun S' => S' = S4) hA3 (by decide) hv4 (by decide) (by decide) (by decide) (by decide) (fits_two (.inr rfl)) goes_get
    (serves_get (V := textV [49, 48]) (ok := true) (by decide) (by rw [hS4]; rfl) (by rw [hS4]; rfl) rfl ⟨rfl, Cnt.near_refl _⟩)
  simp only [Rf.rp] at hrun
  have HRUN := Lib.hid hrun
  clear hA3 hv4 hrun hS4
  refine HRUN.out.mono ?_
  rintro e w4 ⟨v4, rfl, hv4, o4, S4, c4, h4, hK4, hB4⟩
  obtain ⟨a4, l4, rfl, _⟩ := id hv4.slice
  have hy2 := (HX2.out.keep hB4 (by decide)).below (lit_below0 w4 (.cells #[.int .i64 4, .string ⟨#[49, 48]⟩, .int .i64 0, .slice a4 0 l4] 30))
  have hy3 := (HX3.out.keep hB4 (by decide)).below (lit_below0 w4 (.cells #[.int .i64 4, .string ⟨#[49, 48]⟩, .int .i64 0, .slice a4 0 l4] 30))
  have d2 := hy2.cell
  have d3 := hy3.cell
  have HY3 := Lib.hid hy3
  have l2' := (HX2.out.keep hB4 (by decide)).lt
  have l3' := (HX3.out.keep hB4 (by decide)).lt
  have c2x := (HX2.out.keep hB4 (by decide)).cell
  have c3x := (HX3.out.keep hB4 (by decide)).cell
  have HSI := Lib.hid h4.since
  clear hv4 h4 hB4 HRUN hy2 hy3 HX2 HX3
  go_wp2_with fail
  have HD2 := Lib.hid d2
  have HD3 := Lib.hid d3
  refine (lawnumber_ok _ _ _ _ _ _).mono ?_; rintro e w5 ⟨rfl, hB5⟩
  have d3' := (HY3.out.below hB5).cell
  have HY4 := Lib.hid (show Blk none0 w5 [] w4.heap.size #[.int .i64 4, .string ⟨#[49, 48]⟩, .int .i64 0, .slice a4 0 l4] 30 from ⟨by rw [hB5.block _ (by simp)]; exact heap_alloc_new _ _, rfl⟩)
  have l5 : w4.heap.size + 1 ≤ w5.heap.size := by have := hB5.size; simp at this; omega
  clear HY3
  have HB5 := Lib.hid hB5
  clear d2 c2x c3x HD2 HD3 d3
  go_wp2_with fail
  refine (lawnumber_ok _ _ _ _ _ _).mono ?_; rintro e w6 ⟨rfl, hB6⟩
  have d6 := (HY4.out.below hB6).cell
  have l6 : w4.heap.size + 1 ≤ w6.heap.size := Nat.le_trans l5 hB6.size
  have HB6 := Lib.hid hB6
  clear HY4 d3'
  go_wp2_with fail
  refine (lawbulk_ok _ [49, 48] _ _ _ _).mono ?_; rintro e w7 ⟨rfl, hB7⟩
  have HB7 := Lib.hid (HSI.out.trans ((((lit_below0 w4 _).trans ((HB5.out.trans (HB6.out.mono HB5.out.size)).mono (by simp))).trans (hB7.mono (by omega))).mono HSI.out.size))
  clear hB7 d6
  go_wp2_with fail
  go_ret
  exact ⟨rfl, HB7.out⟩
end Go.Proofs.YthojmgjgmbnopaaGreatDoor
