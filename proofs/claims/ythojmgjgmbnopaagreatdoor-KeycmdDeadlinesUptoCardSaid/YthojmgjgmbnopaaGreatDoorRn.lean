import Derived.Test.YthojmgjgmbnopaaGreatDoorKz
import Derived.Test.YthojmgjgmbnopaaGreatDoorCm
import Derived.Test.YthojmgjgmbnopaaGreatDoorXP
namespace Go.Proofs.YthojmgjgmbnopaaGreatDoor
open Go Go.RowKit
/-! Run. -/
theorem vw_rest {A : Nat → Prop} {w : World} {v : Value} {x : Tx} {xs : List Tx} (h : Vw A w v 1 (xs.length + 1) ((x :: xs).map txt)) :
    ∃ b off c a' c', v = .slice (some ⟨b, off, none⟩) (xs.length + 1) c ∧ w.cell? ⟨b, off, none⟩ = some (.string ⟨x.toArray⟩) ∧ A b ∧ Vw A w (.slice a' xs.length c') 1 xs.length (xs.map txt) ∧
      (∀ W, (Instr.slice 39 v (some (.int .i64 1)) none none).run Tryz.prog W = .ok (.slice a' xs.length c') W) := by
  obtain ⟨b, off, c, rfl, _, hA, hc⟩ := vw_head1 h
  obtain ⟨a', c', _, h2, _, hv⟩ := vw_cut h 1 (xs.length + 1) (by omega) (Nat.le_refl _)
  refine ⟨b, off, c, a', c', rfl, hc, hA, ?_, fun W => h2 rfl W⟩
  have e : (((x :: xs).map txt).drop 1).take (xs.length + 1 - 1) = xs.map txt := by simp; exact List.take_of_length_le (by simp)
  rw [e] at hv
  exact hv
/-- A request that is one, by the table. -/
def Fits (low : Tx) (n : Nat) : Prop := ∃ s, specOf low = some s ∧ ((0 ≤ s.arity ∧ (n : Int) = s.arity) ∨ (s.arity < 0 ∧ - s.arity ≤ (n : Int))) ∧ -9223372036854775808 < s.arity
/-- Which function serves which command. -/
def Goes (low : Tx) (F : FuncId) : Prop := mfind (putAll [] cmdL) low = some (fnV F)
/-- What a command's function does, called at a tick over a request of its own that lies apart from the space. -/
def ServesT (F : FuncId) (w : World) (q : List Nat) (p : Nat) (now : Int) (S : SP) (c : Cnt) (nm : Tx) (args : List Tx) (r : RP) (K : SP → Cnt → Prop) : Prop :=
  ∀ (o1 : Roles) (w1 : World) (cb m : Nat) (sv : Value), SpJ o1 w1 q p S c → ¬ q <+: [m] → Below w.heap.size w w1 → Blk o1 w1 [m] cb (callC p now nm sv) 108 → Vw (fun b => b < w1.heap.size ∧ ¬ q <+: o1 b) w1 sv 1 args.length (args.map txt) →
    Calls Tryz.prog F #[.pointer (some ⟨cb, 0, none⟩)] w1 (RepL o1 w1 q p r K)
def goesL : List FuncId := [98, 99, 100, 101, 102, 103, 104, 105, 106, 107, 108, 109, 110, 111, 112, 113, 114, 115, 116]
theorem goes_list : ∀ l : KV, (∀ x ∈ l, ∃ F, F ∈ goesL ∧ x.2 = fnV F) → ∀ low F, mfind l low = some (fnV F) → F ∈ goesL
  | [], _, low, F, h => by cases h
  | (k, u) :: l, hl, low, F, h => by
    unfold mfind at h
    split at h
    · obtain ⟨G, hG, e⟩ := hl _ (List.mem_cons_self ..)
      dsimp only at e
      rw [e] at h
      simp [fnV] at h
      rw [← h]; exact hG
    · exact goes_list l (fun x hx => hl x (List.mem_cons_of_mem _ hx)) low F h
theorem mput_all {Q : Value → Prop} : ∀ (l : KV) (k : Tx) (v : Value), (∀ x ∈ l, Q x.2) → Q v → ∀ x ∈ mput l k v, Q x.2
  | [], k, v, _, hv, x, hx => by simp [mput] at hx; rw [hx]; exact hv
  | (j, u) :: l, k, v, hl, hv, x, hx => by
    unfold mput at hx
    split at hx
    · rcases List.mem_cons.1 hx with rfl | h
      · exact hv
      · exact hl x (List.mem_cons_of_mem _ h)
    · rcases List.mem_cons.1 hx with rfl | h
      · exact hl _ (List.mem_cons_self ..)
      · exact mput_all l k v (fun y hy => hl y (List.mem_cons_of_mem _ hy)) hv x h
theorem putAll_all {Q : Value → Prop} : ∀ (l : List (Nat × Tx)) (kvs : KV), (∀ x ∈ kvs, Q x.2) → (∀ y ∈ l, Q (fnV y.1)) → ∀ x ∈ putAll kvs l, Q x.2
  | [], _, h, _ => h
  | (f, k) :: l, kvs, h, hl => putAll_all l (mput kvs k (fnV f)) (mput_all kvs k _ h (hl _ (List.mem_cons_self ..))) (fun y hy => hl y (List.mem_cons_of_mem _ hy))
theorem Goes.mem {low : Tx} {F : FuncId} (h : Goes low F) : F ∈ goesL :=
  goes_list _ (putAll_all (Q := fun v => ∃ F, F ∈ goesL ∧ v = fnV F) cmdL [] (by simp) (fun y hy => ⟨y.1, by revert y; decide, rfl⟩)) low F h
section
variable {o : Roles} {w : World} {q : List Nat} {p : Nat} {c : Cnt} {S : SP}
set_option maxRecDepth 10000 in
set_option maxHeartbeats 20000000 in
theorem tRun_ok (h : SpJ o w q p S c) (hq : q ≠ []) {nm low : Tx} {args : List Tx} {sv : Value} {now : Int} (hnow : 0 ≤ now ∧ now ≤ 9007199254740992) (hv : Vw (fun b => b < w.heap.size ∧ ¬ q <+: o b) w sv 1 (args.length + 1) ((nm :: args).map txt)) (hlow : lowL nm = low) (hn : nm.length ≤ 1099511627776) (hl : args.length + 1 ≤ 1099511627776) (hne : 0 < args.length)
    (hft : Fits low (args.length + 1)) {F : FuncId} (hg : Goes low F) {r : RP} {K : SP → Cnt → Prop} (hs : ServesT F w q p now S c low args r K) :
    Calls Tryz.prog 23 #[.pointer (some ⟨p, 0, none⟩), .int .i64 now, sv] w (RunDid o w q p r K) := by
  obtain ⟨o1, m, hbg, hj⟩ := begin_roles h hq
  obtain ⟨s, hsp, hsa, hsb⟩ := hft
  obtain ⟨b, off, cap, a', c', rfl, hk, hbl, hvt, hsl⟩ := vw_rest hv
  obtain ⟨hbl, _⟩ := hbl
  have HCK := Lib.hid (check_ok ((hv.imp (B := Old w) (fun b hb => hb.1)).below hbg.res.2) hn (by rw [hlow]; exact hsp) hsa hl hsb)
  have HLO := Lib.hid (fun W => lower_ok nm W hn)
  have HV := Lib.hid hvt
  have HBG := Lib.hid hbg
  have HJ := Lib.hid hj
  have HS := Lib.hid hs
  have HB1 := Lib.hid hbg.res.2
  have HR1 := Lib.hid hbg.res.1
  have HG := Lib.hid hg
  have hmn : min now 9007199254740992 = now := Int.min_eq_left hnow.2
  have hmx : max 0 now = now := Int.max_eq_right hnow.1
  rw [hlow] at HLO
  clear h hbg hj hs hv hvt hsp hsa hsb hg hlow hnow
  unfold txt at HLO
  have hn2 : 1 < args.length + 1 := by omega
  have hn3 : ((args.length + 1 : Nat) : Int) = ((args.length + 1 : Nat) : Int) := rfl
  generalize args.length + 1 = N at *
  clear hn3
  have hn1 : 0 < N := by omega
  go_enter Tryz.func23, Tryz.ntmps23
  go_wp2_with fail
  refine HCK.out.mono ?_; rintro e w2 ⟨rfl, hB2⟩
  have HB2 := Lib.hid hB2
  have hB02 := HB1.out.trans (hB2.mono HB1.out.size)
  have hk2 : w2.cell? ⟨b, off, none⟩ = some (.string ⟨nm.toArray⟩) := by rw [(bcell hB02).1 _ _ hbl]; exact hk
  clear hB2 hk hB02 HCK
  go_wp2_with fail
  refine (HLO.out _).mono ?_; rintro e w3 ⟨rfl, hB3⟩
  have HB3 := Lib.hid (HB2.out.trans (hB3.mono HB2.out.size))
  clear hB3 HB2 HLO
  go_wp2_with fail
  refine (commands_ok _).mono ?_; rintro e w4 ⟨tb, rfl, hmb, hB4⟩
  have hlk := run_look (P := Tryz.prog) hmb Tryz.underlying104 Tryz.underlying9 low true (z := .agg #[.nilFunc]) (by kernel_rfl)
  have hgo := HG.out
  unfold Goes at hgo
  rw [hgo] at hlk
  simp only [Option.getD_some, Option.isSome_some, if_true] at hlk
  unfold txt fnV at hlk
  have HB4 := Lib.hid (HB3.out.trans (hB4.mono HB3.out.size))
  have hbA : Blk none0 (w4.alloc (.cells #[.nilFunc] 102)) [] w4.heap.size #[.nilFunc] 102 := ⟨heap_alloc_new w4 _, rfl⟩
  have hcA := hbA.cell
  have hfA := hbA.free
  have hst : (store ⟨w4.heap.size, 0, none⟩ (.func (.func F) #[] #[])).run Tryz.prog (w4.alloc (.cells #[.nilFunc] 102)) = .ok () ((w4.alloc (.cells #[.nilFunc] 102)).setCell ⟨w4.heap.size, 0, none⟩ (.func (.func F) #[] #[])) := by
    rw [run_store _ _ _ _ _ rfl]
    simp [hcA, hfA]
  have hmem := HG.out.mem
  have hz1 : (w.alloc (.cells zRepC 30)).heap.size = w.heap.size + 1 := by simp
  have hHB : Below w.heap.size w ((w4.alloc (.cells #[.func (.func F) #[] #[]] 102)).alloc (.cells (callC p now low (.slice a' args.length c')) 108)) :=
    ((HB1.out.trans (HB4.out.mono HB1.out.size)).alloc (by have := HB4.out.size; have := HB1.out.size; omega) _).alloc (by have := HB4.out.size; have := HB1.out.size; simp; omega) _
  have hv4 := (HV.out.below hHB).imp (B := fun b => b < ((w4.alloc (.cells #[.func (.func F) #[] #[]] 102)).alloc (.cells (callC p now low (.slice a' args.length c')) 108)).heap.size ∧ ¬ q <+: o1 b) (fun b hb => ⟨Nat.lt_of_lt_of_le hb.1 hHB.size, by rw [HBG.out.old b hb.1]; exact hb.2⟩)
  have hcb : Blk o1 ((w4.alloc (.cells #[.func (.func F) #[] #[]] 102)).alloc (.cells (callC p now low (.slice a' args.length c')) 108)) [m + 2] (w4.heap.size + 1) (callC p now low (.slice a' args.length c')) 108 := by
    have e : (w4.alloc (.cells #[.func (.func F) #[] #[]] 102)).heap.size = w4.heap.size + 1 := by simp
    refine ⟨by rw [← e]; exact heap_alloc_new _ _, HBG.out.new _ ?_⟩
    have := HB4.out.size; have := HB1.out.size; omega
  have HC := Lib.hid (HS.out o1 _ _ (m + 2) _ (HJ.out.below hHB) (HBG.out.aq 2).not hHB hcb hv4)
  have hr4 : Blk o1 ((w4.alloc (.cells #[.func (.func F) #[] #[]] 102)).alloc (.cells (callC p now low (.slice a' args.length c')) 108)) [m + 2] w.heap.size zRepC 30 :=
    HR1.out.below ((HB4.out.alloc (by have := HB4.out.size; omega) _).alloc (by have := HB4.out.size; simp; omega) _)
  have HR4 := Lib.hid hr4
  have HBX := Lib.hid hHB
  clear hgo hmb hz1 hB4 HB3 HG hk2 hbA hHB hv4 hcb hr4 HV HS HB4
  obtain ⟨kind, text, rn, list⟩ := r
  unfold RepL at HC
  dsimp only at HC
  go_upto_region 8 with fail
  simp only [goesL, List.mem_cons, List.not_mem_nil, or_false] at hmem
  rcases hmem with rfl | rfl | rfl | rfl | rfl | rfl | rfl | rfl | rfl | rfl | rfl | rfl | rfl | rfl | rfl | rfl | rfl | rfl | rfl <;> (
    go_wp2_with fail
    refine HC.out.mono ?_
    rintro e w5 ⟨v, rfl, hv5, o5, S5, c5, hj5, hK5, hs5⟩
    obtain ⟨a5, cap5, rfl, _⟩ := id hv5.slice
    have hr5 := HR4.out.keep hs5 (HBG.out.aq 2).not
    have hrc := hr5.cell
    have hrf := hr5.free
    have HV5 := Lib.hid hv5
    have HJ5 := Lib.hid hj5
    have HK5 := Lib.hid hK5
    have HR5 := Lib.hid hr5
    have hsz := HR4.out.lt
    have HSZ := Lib.hid hsz
    have HS5 := Lib.hid ((HBG.out.st q).trans ((Stp.ofBelow q o1 HBX.out).trans hs5))
    clear hv5 hj5 hK5 hr5 hs5 hsz HC HR4 HBX
    go_wp2_with fail
    obtain ⟨hj7, hs7⟩ := HBG.out.stored HJ5.out HR5.out HS5.out (.int .i64 (kind : Int)) (.string ⟨text.toArray⟩) (.int .i64 rn) (.slice a5 list.length cap5)
    exact bodyPost_ret (v := .tuple #[repV kind text rn (.slice a5 list.length cap5), .bool true]) (by simp [results, Tryz.results23, go_sem, hrc]) rfl ⟨_, rfl, vw_four HV5.out HSZ.out, o5, S5, c5, hj7, HK5.out, hs7⟩)
end
end Go.Proofs.YthojmgjgmbnopaaGreatDoor
