import Derived.Test.YthojmgjgmbnopaaGreatDoorHb
namespace Go.Proofs.YthojmgjgmbnopaaGreatDoor
open Go Go.RowKit
/-! keycmd.Run. -/
def knamesL : List Tx := [[99, 111, 112, 121], [100, 98, 115, 105, 122, 101], [100, 101, 108], [100, 117, 109, 112], [101, 99, 104, 111], [101, 120, 105, 115, 116, 115], [101, 120, 112, 105, 114, 101], [101, 120, 112, 105, 114, 101, 97, 116], [101, 120, 112, 105, 114, 101, 116, 105, 109, 101], [102, 108, 117, 115, 104, 97, 108, 108], [102, 108, 117, 115, 104, 100, 98], [107, 101, 121, 115], [112, 101, 114, 115, 105, 115, 116], [112, 101, 120, 112, 105, 114, 101], [112, 101, 120, 112, 105, 114, 101, 97, 116], [112, 101, 120, 112, 105, 114, 101, 116, 105, 109, 101], [112, 105, 110, 103], [112, 116, 116, 108], [114, 101, 110, 97, 109, 101], [114, 101, 110, 97, 109, 101, 110, 120], [114, 101, 115, 116, 111, 114, 101], [115, 99, 97, 110], [116, 116, 108], [116, 121, 112, 101], [117, 110, 108, 105, 110, 107]]
theorem knames_asc : Asc knamesL := by unfold Asc; decide +kernel
theorem kNames_ok (w : World) : Calls Tryz.prog 26 #[] w fun e w' => e = .returned (.slice (some ⟨w.heap.size, 0, none⟩) 25 25) ∧ w' = w.alloc (.cells (knamesL.map txt).toArray 9) := by
  go_enter Tryz.func26, Tryz.ntmps26
  go_wp2_with fail
  go_ret
  exact ⟨rfl, rfl⟩
/-- A block that holds the names. -/
theorem knames_vw (w : World) : Vw (fun k => k = w.heap.size) (w.alloc (.cells (knamesL.map txt).toArray 9)) (.slice (some ⟨w.heap.size, 0, none⟩) knamesL.length 25) 1 knamesL.length (knamesL.map txt) := by
  refine ⟨⟨some ⟨w.heap.size, 0, none⟩, 25, rfl, by decide, by unfold maxLen; omega, .inr ⟨w.heap.size, 0, rfl, by simp, rfl, fun k u hk => ?_⟩⟩, by decide⟩
  rw [Nat.zero_add]
  unfold World.cell?
  rw [heap_alloc_new]
  simpa using hk
/-- Which function serves which command. -/
def GoesK (low : Tx) (F : FuncId) : Prop := ∃ k0, (k0, F) ∈ [(0, 68), (1, 71), (2, 71), (3, 71), (4, 71), (5, 71), (6, 66), (7, 66), (8, 67), (9, 71), (10, 71), (11, 71), (12, 71), (13, 66), (14, 66), (15, 67), (16, 71), (17, 67), (18, 68), (19, 68), (20, 70), (21, 69), (22, 67), (23, 71), (24, 71)] ∧ knamesL[k0]? = some low
/-- Where the search ends at a name. -/
theorem kfound {low : Tx} {k0 i : Nat} (h0 : knamesL[k0]? = some low) (h1 : ∀ k y, k < i → knamesL[k]? = some y → ltB y low = true) (h2 : ∀ k y, i ≤ k → knamesL[k]? = some y → ltB y low = false) : i = k0 := by
  rcases Nat.lt_trichotomy i k0 with h | h | h
  · have hk := (List.getElem?_eq_some_iff.1 h0)
    have hk1 := hk.1
    have hil : i < knamesL.length := by omega
    have hi : knamesL[i]? = some (knamesL[i]'hil) := List.getElem?_eq_getElem hil
    have e1 := h2 i _ (Nat.le_refl _) hi
    have e2 := List.pairwise_iff_getElem.1 knames_asc i k0 hil hk.1 h
    rw [hk.2] at e2
    rw [e1] at e2; cases e2
  · exact h
  · have e1 := h1 k0 low h h0
    rw [show ltB low low = false from less_irrefl low] at e1; cases e1
/-- What a job's function does, called at a tick over a request of its own that lies apart from the space. -/
def ServesK (F : FuncId) (w : World) (q : List Nat) (p : Nat) (now : Int) (S : SP) (c : Cnt) (nm : Tx) (args : List Tx) (r : RP) (K : SP → Cnt → Prop) : Prop :=
  ∀ (o1 : Roles) (w1 : World) (cb m : Nat) (sv : Value), SpJ o1 w1 q p S c → ¬ q <+: [m] → Below w.heap.size w w1 → Blk o1 w1 [m] cb (callC p now nm sv) 112 → Vw (fun b => b < w1.heap.size ∧ ¬ q <+: o1 b) w1 sv 1 args.length (args.map txt) →
    Calls Tryz.prog F #[.pointer (some ⟨cb, 0, none⟩)] w1 (RepL o1 w1 q p r K)
def RunR (o1 : Roles) (w : World) (m p : Nat) (now : Int) (low : Tx) (sv : Value) (s8 : Value) (wx : World) : Prop :=
  ∃ g, s8 = .pointer (some ⟨g, 0, none⟩) ∧ Below (w.alloc (.cells zRepC 30)).heap.size (w.alloc (.cells zRepC 30)) wx ∧ Blk o1 wx [m + 2] g (callC p now low sv) 112
section
variable {o : Roles} {w : World} {q : List Nat} {p : Nat} {c : Cnt} {S : SP}
set_option maxRecDepth 10000 in
set_option maxHeartbeats 20000000 in
theorem kRun_ok (h : SpJ o w q p S c) (hq : q ≠ []) {nm low : Tx} {args : List Tx} {sv : Value} {now : Int} (hnow : 0 ≤ now ∧ now ≤ 9007199254740992) (hv : Vw (fun b => b < w.heap.size ∧ ¬ q <+: o b) w sv 1 (args.length + 1) ((nm :: args).map txt)) (hlow : lowL nm = low) (hn : nm.length ≤ 1099511627776) (hl : args.length + 1 ≤ 1099511627776)
    (hft : Fits low (args.length + 1)) {F : FuncId} (hg : GoesK low F) {r : RP} {K : SP → Cnt → Prop} (hs : ServesK F w q p now S c low args r K) :
    Calls Tryz.prog 25 #[.pointer (some ⟨p, 0, none⟩), .int .i64 now, sv] w (RunDid o w q p r K) := by
  obtain ⟨o1, m, hbg, hj⟩ := begin_roles h hq
  obtain ⟨s, hsp, hsa, hsb⟩ := hft
  obtain ⟨b, off, cap, a', c', rfl, hk, hbl, hvt, hsl⟩ := vw_rest hv
  obtain ⟨hbl, _⟩ := hbl
  have HCK := Lib.hid (check_ok ((hv.imp (B := Old w) (fun b hb => hb.1)).below hbg.res.2) hn (by rw [hlow]; exact hsp) hsa hl hsb)
  have HLO := Lib.hid (fun W => lower_ok nm W hn)
  have HV := Lib.hid hvt
  have HBG := Lib.hid hbg
  have HJ := Lib.hid hj
  have HS := Lib.hid hs
  have HB1 := Lib.hid hbg.res.2
  have HR1 := Lib.hid hbg.res.1
  have HG := Lib.hid hg
  have hmn : min now 9007199254740992 = now := Int.min_eq_left hnow.2
  have hmx : max now 0 = now := Int.max_eq_left hnow.1
  rw [hlow] at HLO
  clear h hbg hj hs hv hvt hsp hsa hsb hg hlow hnow
  unfold txt at HLO
  have hn3 : ((args.length + 1 : Nat) : Int) = ((args.length + 1 : Nat) : Int) := rfl
  have hn1 : 0 < args.length + 1 := by omega
  have hn2 : 1 ≤ args.length + 1 := by omega
  generalize args.length + 1 = N at *
  clear hn3
  go_enter Tryz.func25, Tryz.ntmps25
  go_wp2_with fail
  refine HCK.out.mono ?_; rintro e w2 ⟨rfl, hB2⟩
  have HB2 := Lib.hid hB2
  have hB02 := HB1.out.trans (hB2.mono HB1.out.size)
  have hk2 : w2.cell? ⟨b, off, none⟩ = some (.string ⟨nm.toArray⟩) := by rw [(bcell hB02).1 _ _ hbl]; exact hk
  clear hB2 hk hB02 HCK
  go_upto_region 3 with fail
  go_cut [8] from 8 to 30 (fun s8 wx => RunR o1 w m p now low (.slice a' args.length c') s8 wx)
  case first =>
    go_region_with (
      go_at_call 62
      (with_reducible refine (HLO.out _).mono ?_)
      rintro e w3 ⟨rfl, hB3⟩
      have hB03 := HB2.out.trans (((Below.refl _ w2).drew.trans hB3).mono HB2.out.size)
      have HB3 := Lib.hid hB03
      clear hB3 hB03)
    all_goals (
      have D : RunR o1 w m p now low (.slice a' args.length c') (.pointer (some ⟨w3.heap.size, 0, none⟩)) (w3.alloc (.cells (callC p now low (.slice a' args.length c')) 112)) :=
        ⟨_, rfl, HB3.out.alloc HB3.out.size _, heap_alloc_new _ _, HBG.out.new _ (by have := HB3.out.size; rw [World.size_alloc] at this; omega)⟩
      have HD := Lib.hid D
      clear D HB3 HLO HV HBG HJ HS HB1 HB2 HR1 HG hsl hk2
      go_wp2_with fail
      go_meet
      exact HD.out)
  case rest =>
    obtain ⟨g, rfl, hB4, hcb⟩ := hcut
    have HC4 := Lib.hid hcb
    have HR4 := Lib.hid (HR1.out.below hB4)
    have HB4 := Lib.hid (HB1.out.trans (hB4.mono HB1.out.size))
    have hcc := hcb.cell
    have hgl := hcb.lt
    clear hB4 hcb hsl hk2 HLO HB2 HR1 hmn hmx
    go_wp2_with fail
    refine (kNames_ok _).mono ?_; rintro e w5 ⟨rfl, hw5⟩
    subst hw5
    have hsr : Calls Tryz.prog 65 #[.slice (some ⟨wc.heap.size, 0, none⟩) 25 25, .string ⟨low.toArray⟩] (wc.alloc (.cells (knamesL.map txt).toArray 9)) (fun e w' => ∃ i : Nat, e = .returned (.int .i64 (i : Int)) ∧ i ≤ knamesL.length ∧ (∀ k y, k < i → knamesL[k]? = some y → ltB y low = true) ∧ (∀ k y, i ≤ k → knamesL[k]? = some y → ltB y low = false) ∧ Below (wc.alloc (.cells (knamesL.map txt).toArray 9)).heap.size (wc.alloc (.cells (knamesL.map txt).toArray 9)) w') := searchStrings_ok (knames_vw wc) knames_asc (by decide)
    have hnb : Blk none0 (wc.alloc (.cells (knamesL.map txt).toArray 9)) [] wc.heap.size (knamesL.map txt).toArray 9 := ⟨heap_alloc_new _ _, rfl⟩
    have HNB := Lib.hid hnb
    have HSR := Lib.hid hsr
    have hcc5 := (HC4.out.below (lit_below0 wc (.cells (knamesL.map txt).toArray 9))).cell
    generalize hW5 : wc.alloc (.cells (knamesL.map txt).toArray 9) = w5 at *
    have HB5 := Lib.hid (show Below wc.heap.size wc w5 from by rw [← hW5]; exact lit_below0 _ _)
    clear hcc hgl hW5 hnb hsr
    go_wp2_with fail
    refine HSR.out.mono ?_; rintro e w6 ⟨i, rfl, _, h1, h2, hB6⟩
    obtain ⟨k0, hmem, hk0⟩ := HG.out
    obtain rfl := kfound hk0 h1 h2
    have hB46 := HB5.out.trans (hB6.mono HB5.out.size)
    have hnb6 := HNB.out.below hB6
    have hcb6 := HC4.out.below hB46
    have hr6 := HR4.out.below hB46
    have hB06 := HB4.out.trans (hB46.mono HB4.out.size)
    have hv6 := (HV.out.below hB06).imp (B := fun b => b < w6.heap.size ∧ ¬ q <+: o1 b) (fun b hb => ⟨Nat.lt_of_lt_of_le hb.1 hB06.size, by rw [HBG.out.old b hb.1]; exact hb.2⟩)
    have HCD := Lib.hid (fun n => HS.out o1 (w6.drewN n) g (m + 2) _ (HJ.out.below (below_drewN hB06 n)) (HBG.out.aq 2).not (below_drewN hB06 n) (hcb6.drewN n) (hv6.below (below_drewN (Below.refl _ _) n) |>.imp (fun b hb => hb)))
    have HR6 := Lib.hid hr6
    have HB6 := Lib.hid hB06
    have hni : w6.cell? ⟨wc.heap.size, i, none⟩ = some (.string ⟨low.toArray⟩) := by rw [hnb6.cell]; simp [hk0, txt]
    have hcc := hcb6.cell
    clear h1 h2 hB6 HSR HNB hcc5 HB5 hB46 hnb6 hcb6 hr6 hB06 hv6 HG HS HJ HV HC4 HR4 HB4
    obtain ⟨kind, text, rn, list⟩ := r
    unfold RepL at HCD
    dsimp only at HCD
    simp only [List.mem_cons, Prod.mk.injEq, List.not_mem_nil, or_false] at hmem
    rcases hmem with ⟨rfl, rfl⟩ | ⟨rfl, rfl⟩ | ⟨rfl, rfl⟩ | ⟨rfl, rfl⟩ | ⟨rfl, rfl⟩ | ⟨rfl, rfl⟩ | ⟨rfl, rfl⟩ | ⟨rfl, rfl⟩ | ⟨rfl, rfl⟩ | ⟨rfl, rfl⟩ | ⟨rfl, rfl⟩ | ⟨rfl, rfl⟩ | ⟨rfl, rfl⟩ | ⟨rfl, rfl⟩ | ⟨rfl, rfl⟩ | ⟨rfl, rfl⟩ | ⟨rfl, rfl⟩ | ⟨rfl, rfl⟩ | ⟨rfl, rfl⟩ | ⟨rfl, rfl⟩ | ⟨rfl, rfl⟩ | ⟨rfl, rfl⟩ | ⟨rfl, rfl⟩ | ⟨rfl, rfl⟩ | ⟨rfl, rfl⟩ <;> (
      obtain rfl : low = _ := (Option.some.inj hk0).symm
      clear hk0
      go_wp2_with fail
      go_quiet (fail)
      go_wp2_with fail
      refine (HCD.out nq).mono ?_
      rintro e w7 ⟨v, rfl, hv7, o7, S7, c7, hj7, hK7, hs7⟩
      obtain ⟨a7, cap7, rfl, _⟩ := id hv7.slice
      have hr7 := (HR6.out.drewN nq).keep hs7 (HBG.out.aq 2).not
      have hrc := hr7.cell
      have hrf := hr7.free
      have HV7 := Lib.hid hv7
      have HJ7 := Lib.hid hj7
      have HK7 := Lib.hid hK7
      have HR7 := Lib.hid hr7
      have HSZ := Lib.hid (show w.heap.size < (w6.drewN nq).heap.size from (HR6.out.drewN nq).lt)
      have HS7 := Lib.hid ((HBG.out.st q).trans ((Stp.ofBelow q o1 (below_drewN HB6.out nq)).trans hs7))
      clear hv7 hj7 hK7 hr7 hs7 HCD HR6 HB6 hcc hni
      go_wp2_with fail
      obtain ⟨hj9, hs9⟩ := HBG.out.stored HJ7.out HR7.out HS7.out (.int .i64 (kind : Int)) (.string ⟨text.toArray⟩) (.int .i64 rn) (.slice a7 list.length cap7)
      exact bodyPost_ret (v := .tuple #[repV kind text rn (.slice a7 list.length cap7), .bool true]) (by simp [results, Tryz.results25, go_sem, hrc]) rfl ⟨_, rfl, vw_four HV7.out HSZ.out, o7, S7, c7, hj9, HK7.out, hs9⟩)
end
end Go.Proofs.YthojmgjgmbnopaaGreatDoor
