import Derived.Test.YthojmgjgmbnopaaGreatDoorJC
import Derived.Test.YthojmgjgmbnopaaGreatDoorIa
import Derived.Test.YthojmgjgmbnopaaGreatDoorIf
namespace Go.Proofs.YthojmgjgmbnopaaGreatDoor
open Go Go.RowKit
/-! Run of what only asks: nothing old is written. -/
def Rf.bare (r : Rf) : RP := ⟨r.kind, r.text, r.n, []⟩
def TellDid (w : World) (r : RP) (e : Ending) (w' : World) : Prop :=
  ∃ v, e = .returned (.tuple #[repV r.kind r.text r.n v, .bool true]) ∧ Vw (fun b => w.heap.size ≤ b) w' v 4 r.list.length (rfsC r.list) ∧ Below w.heap.size w w'
def ServesB (F : FuncId) (w : World) (q : List Nat) (p : Nat) (now : Int) (S : SP) (c : Cnt) (nm : Tx) (args : List Tx) (r : RP) : Prop :=
  ∀ (o1 : Roles) (w1 : World) (ρ : List Nat) (cb : Nat) (sv : Value), SpJ o1 w1 q p S c → Below w.heap.size w w1 → Blk o1 w1 ρ cb (callC p now nm sv) 108 → Vw (Old w1) w1 sv 1 args.length (args.map txt) →
    Calls Tryz.prog F #[.pointer (some ⟨cb, 0, none⟩)] w1 (RepB w1 r)
section
variable {o : Roles} {w : World} {q : List Nat} {p : Nat} {c : Cnt} {S : SP} {cb : Nat} {ρ : List Nat} {now : Int} {sv : Value} {nm : Tx}
set_option maxRecDepth 10000 in
set_option maxHeartbeats 4000000 in
theorem get_tells (h : SpJ o w q p S c) {k : Tx} {rest : List Tx} (hcb : Blk o w ρ cb (callC p now nm sv) 108)
    (hv : Vw (Old w) w sv 1 (rest.length + 1) ((k :: rest).map txt)) :
    Calls Tryz.prog 103 #[.pointer (some ⟨cb, 0, none⟩)] w (RepB w (if S.bad now k then errF wrongB else oldF S now k).bare) := by
  have hB1 : Below w.heap.size w (w.alloc (.cells zRepC 30)) := (Below.refl _ _).alloc (Nat.le_refl _) _
  have hrb : Blk none0 (w.alloc (.cells zRepC 30)) [] w.heap.size zRepC 30 := ⟨heap_alloc_new w _, rfl⟩
  have hcc := hcb.cell
  have hcl := hcb.lt
  obtain ⟨b, off, cap, rfl, hbl, _, hcap, hg⟩ := arg_at (args := k :: rest) hv (by simp)
  have hk := hg 0 k rfl
  rw [Nat.add_zero] at hk
  have hcapI : (1 : Int) ≤ (cap : Int) := by simp at hcap; omega
  have hlen : (0 : Int) < ((k :: rest).length : Int) := by simp
  have HTX := Lib.hid (ctext_any (h.below hB1) (hcb.below hB1) k)
  have HR := Lib.hid hrb
  have HB1 := Lib.hid hB1
  unfold oldF
  generalize S.txt now k = tx at *
  generalize S.is now k = ok at *
  generalize S.bad now k = wr at *
  generalize (k :: rest).length = L at *
  clear h hcb hv hg hcap hB1 hrb
  cases wr with
  | true =>
    simp only [if_true]
    go_enter Tryz.func103, Tryz.ntmps103
    go_wp2_with fail
    refine HTX.out.mono ?_; rintro e w3 ⟨rfl, hB3⟩
    have HR3 := Lib.hid (HR.out.below hB3)
    have HB3 := Lib.hid (HB1.out.trans (hB3.mono HB1.out.size))
    have HFA := Lib.hid (lfault_ok w3 wrongB)
    unfold txt wrongB at HFA
    clear hB3 HTX HR HB1 hcc hk
    go_wp2_with fail
    refine HFA.out.mono ?_; rintro e w6 ⟨rfl, hB6⟩
    have hrc := (HR3.out.below hB6).cell
    have hrf := (HR3.out.below hB6).free
    have HB6 := Lib.hid (HB3.out.trans (hB6.mono HB3.out.size))
    clear hB6 HR3 HFA HB3
    go_wp2_with fail
    exact bodyPost_ret (v := repV 2 wrongB 0 (.slice none 0 0)) (by simp [results, Tryz.results103, go_sem, hrc, wrongB]) rfl ⟨_, rfl, Vw.nil _ _ _, by
      iterate 4 refine Below.setCell ?_ (by exact Nat.le_refl _) _
      exact HB6.out⟩
  | false =>
    simp only [Bool.false_eq_true, if_false]
    cases ok with
    | false =>
      simp only [Bool.false_eq_true, if_false]
      go_enter Tryz.func103, Tryz.ntmps103
      go_wp2_with fail
      refine HTX.out.mono ?_; rintro e w3 ⟨rfl, hB3⟩
      have HR3 := Lib.hid (HR.out.below hB3)
      have HB3 := Lib.hid (HB1.out.trans (hB3.mono HB1.out.size))
      have HOLD := Lib.hid (lold_ok w3 tx false)
      unfold txt at HOLD
      simp only [Bool.false_eq_true, if_false] at HOLD
      clear hB3 HTX HR HB1 hcc hk
      go_wp2_with fail
      refine HOLD.out.mono ?_; rintro e w6 ⟨rfl, hB6⟩
      have hrc := (HR3.out.below hB6).cell
      have hrf := (HR3.out.below hB6).free
      have HB6 := Lib.hid (HB3.out.trans (hB6.mono HB3.out.size))
      clear hB6 HR3 HOLD HB3
      go_wp2_with fail
      exact bodyPost_ret (v := repV 5 [] 0 (.slice none 0 0)) (by simp [results, Tryz.results103, go_sem, hrc]) rfl ⟨_, rfl, Vw.nil _ _ _, by
        iterate 4 refine Below.setCell ?_ (by exact Nat.le_refl _) _
        exact HB6.out⟩
    | true =>
      simp only [if_true]
      go_enter Tryz.func103, Tryz.ntmps103
      go_wp2_with fail
      refine HTX.out.mono ?_; rintro e w3 ⟨rfl, hB3⟩
      have HR3 := Lib.hid (HR.out.below hB3)
      have HB3 := Lib.hid (HB1.out.trans (hB3.mono HB1.out.size))
      have HOLD := Lib.hid (lold_ok w3 tx true)
      unfold txt at HOLD
      simp only [if_true] at HOLD
      clear hB3 HTX HR HB1 hcc hk
      go_wp2_with fail
      refine HOLD.out.mono ?_; rintro e w6 ⟨rfl, hB6⟩
      have hrc := (HR3.out.below hB6).cell
      have hrf := (HR3.out.below hB6).free
      have HB6 := Lib.hid (HB3.out.trans (hB6.mono HB3.out.size))
      clear hB6 HR3 HOLD HB3
      go_wp2_with fail
      exact bodyPost_ret (v := repV 4 tx 0 (.slice none 0 0)) (by simp [results, Tryz.results103, go_sem, hrc]) rfl ⟨_, rfl, Vw.nil _ _ _, by
        iterate 4 refine Below.setCell ?_ (by exact Nat.le_refl _) _
        exact HB6.out⟩
end
section
variable {o : Roles} {w : World} {q : List Nat} {p : Nat} {c : Cnt} {S : SP}
set_option maxRecDepth 10000 in
set_option maxHeartbeats 20000000 in
theorem tTell_any (h : SpJ o w q p S c) {nm low : Tx} {args : List Tx} {sv : Value} {now now' : Int} (hmx : max 0 (min now 9007199254740992) = now') (hv : Vw (Old w) w sv 1 (args.length + 1) ((nm :: args).map txt)) (hlow : lowL nm = low) (hn : nm.length ≤ 1099511627776) (hl : args.length + 1 ≤ 1099511627776) (hne : 0 < args.length)
    (hft : Fits low (args.length + 1)) {F : FuncId} (hg : Goes low F) {r : RP} (hs : ServesB F w q p now' S c low args r) :
    Calls Tryz.prog 23 #[.pointer (some ⟨p, 0, none⟩), .int .i64 now, sv] w (TellDid w r) := by
  have hB1 : Below w.heap.size w (w.alloc (.cells zRepC 30)) := (Below.refl _ _).alloc (Nat.le_refl _) _
  have hrb : Blk none0 (w.alloc (.cells zRepC 30)) [] w.heap.size zRepC 30 := ⟨heap_alloc_new w _, rfl⟩
  obtain ⟨s, hsp, hsa, hsb⟩ := hft
  obtain ⟨b, off, cap, a', c', rfl, hk, hbl, hvt, hsl⟩ := vw_rest hv
  have HCK := Lib.hid (check_ok ((hv.imp (B := Old w) (fun b hb => hb)).below hB1) hn (by rw [hlow]; exact hsp) hsa hl hsb)
  have HLO := Lib.hid (fun W => lower_ok nm W hn)
  have HV := Lib.hid hvt
  have HJ := Lib.hid h
  have HS := Lib.hid hs
  have HB1 := Lib.hid hB1
  have HR1 := Lib.hid hrb
  have HG := Lib.hid hg
  rw [hlow] at HLO
  clear h hB1 hrb hs hv hvt hsp hsa hsb hg hlow
  unfold txt at HLO
  have hn2 : 1 < args.length + 1 := by omega
  have hn3 : ((args.length + 1 : Nat) : Int) = ((args.length + 1 : Nat) : Int) := rfl
  generalize args.length + 1 = N at *
  clear hn3
  have hn1 : 0 < N := by omega
  go_enter Tryz.func23, Tryz.ntmps23
  go_wp2_with fail
  refine HCK.out.mono ?_; rintro e w2 ⟨rfl, hB2⟩
  have HB2 := Lib.hid hB2
  have hB02 := HB1.out.trans (hB2.mono HB1.out.size)
  have hk2 : w2.cell? ⟨b, off, none⟩ = some (.string ⟨nm.toArray⟩) := by rw [(bcell hB02).1 _ _ hbl]; exact hk
  clear hB2 hk hB02 HCK
  go_wp2_with fail
  refine (HLO.out _).mono ?_; rintro e w3 ⟨rfl, hB3⟩
  have HB3 := Lib.hid (HB2.out.trans (hB3.mono HB2.out.size))
  clear hB3 HB2 HLO
  go_wp2_with fail
  refine (commands_ok _).mono ?_; rintro e w4 ⟨tb, rfl, hmb, hB4⟩
  have hlk := run_look (P := Tryz.prog) hmb Tryz.underlying104 Tryz.underlying9 low true (z := .agg #[.nilFunc]) (by kernel_rfl)
  have hgo := HG.out
  unfold Goes at hgo
  rw [hgo] at hlk
  simp only [Option.getD_some, Option.isSome_some, if_true] at hlk
  unfold txt fnV at hlk
  have HB4 := Lib.hid (HB3.out.trans (hB4.mono HB3.out.size))
  have hbA : Blk none0 (w4.alloc (.cells #[.nilFunc] 102)) [] w4.heap.size #[.nilFunc] 102 := ⟨heap_alloc_new w4 _, rfl⟩
  have hcA := hbA.cell
  have hfA := hbA.free
  have hst : (store ⟨w4.heap.size, 0, none⟩ (.func (.func F) #[] #[])).run Tryz.prog (w4.alloc (.cells #[.nilFunc] 102)) = .ok () ((w4.alloc (.cells #[.nilFunc] 102)).setCell ⟨w4.heap.size, 0, none⟩ (.func (.func F) #[] #[])) := by
    rw [run_store _ _ _ _ _ rfl]
    simp [hcA, hfA]
  have hmem := HG.out.mem
  have hz1 : (w.alloc (.cells zRepC 30)).heap.size = w.heap.size + 1 := by simp
  have hHB : Below w.heap.size w ((w4.alloc (.cells #[.func (.func F) #[] #[]] 102)).alloc (.cells (callC p now' low (.slice a' args.length c')) 108)) :=
    ((HB1.out.trans (HB4.out.mono HB1.out.size)).alloc (by have := HB4.out.size; have := HB1.out.size; omega) _).alloc (by have := HB4.out.size; have := HB1.out.size; simp; omega) _
  have hv4 := (HV.out.below hHB).imp (B := Old ((w4.alloc (.cells #[.func (.func F) #[] #[]] 102)).alloc (.cells (callC p now' low (.slice a' args.length c')) 108))) (fun b hb => Nat.lt_of_lt_of_le hb hHB.size)
  have hcb : Blk o ((w4.alloc (.cells #[.func (.func F) #[] #[]] 102)).alloc (.cells (callC p now' low (.slice a' args.length c')) 108)) (o (w4.heap.size + 1)) (w4.heap.size + 1) (callC p now' low (.slice a' args.length c')) 108 := by
    have e : (w4.alloc (.cells #[.func (.func F) #[] #[]] 102)).heap.size = w4.heap.size + 1 := by simp
    exact ⟨by rw [← e]; exact heap_alloc_new _ _, rfl⟩
  have HC := Lib.hid (HS.out o _ _ _ _ (HJ.out.below hHB) hHB hcb hv4)
  have hr4 : Blk none0 ((w4.alloc (.cells #[.func (.func F) #[] #[]] 102)).alloc (.cells (callC p now' low (.slice a' args.length c')) 108)) [] w.heap.size zRepC 30 :=
    HR1.out.below ((HB4.out.alloc (by have := HB4.out.size; omega) _).alloc (by have := HB4.out.size; simp; omega) _)
  have HR4 := Lib.hid hr4
  have HBX := Lib.hid hHB
  clear hgo hmb hz1 hB4 HB3 HG hk2 hbA hHB hv4 hcb hr4 HV HS HB4
  obtain ⟨kind, text, rn, list⟩ := r
  unfold RepB at HC
  dsimp only at HC
  go_upto_region 8 with fail
  simp only [goesL, List.mem_cons, List.not_mem_nil, or_false] at hmem
  rcases hmem with rfl | rfl | rfl | rfl | rfl | rfl | rfl | rfl | rfl | rfl | rfl | rfl | rfl | rfl | rfl | rfl | rfl | rfl | rfl <;> (
    go_wp2_with fail
    refine HC.out.mono ?_
    rintro e w5 ⟨v, rfl, hv5, hB5⟩
    obtain ⟨a5, cap5, rfl, _⟩ := id hv5.slice
    have hr5 := HR4.out.below hB5
    have hrc := hr5.cell
    have hrf := hr5.free
    have HV5 := Lib.hid hv5
    have HSZ := Lib.hid (show w.heap.size < _ from HR4.out.lt)
    have HB5 := Lib.hid (HBX.out.trans (hB5.mono HBX.out.size))
    clear hv5 hr5 hB5 HC HR4 HBX
    go_wp2_with fail
    refine bodyPost_ret (v := .tuple #[repV kind text rn (.slice a5 list.length cap5), .bool true]) (by simp [results, Tryz.results23, go_sem, hrc]) rfl ⟨_, rfl, ?_, ?_⟩
    · exact (vw_four HV5.out HSZ.out).imp (fun b hb => by have := HSZ.out; omega)
    · iterate 4 refine Below.setCell ?_ (by exact Nat.le_refl _) _
      exact HB5.out)
end
end Go.Proofs.YthojmgjgmbnopaaGreatDoor
