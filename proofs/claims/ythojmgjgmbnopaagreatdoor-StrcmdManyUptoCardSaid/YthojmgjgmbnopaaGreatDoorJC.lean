import Derived.Test.YthojmgjgmbnopaaGreatDoorJA
import Derived.Test.YthojmgjgmbnopaaGreatDoorXA
import Derived.Test.YthojmgjgmbnopaaGreatDoorXO
import Derived.Test.YthojmgjgmbnopaaGreatDoorJB
import Derived.Test.YthojmgjgmbnopaaGreatDoorXP
namespace Go.Proofs.YthojmgjgmbnopaaGreatDoor
open Go Go.RowKit
/-! A table of functions by their names: a map literal. -/
def fnV (f : Nat) : Value := .agg #[.func (.func f) #[] #[]]
def opB (tT d f : Nat) (ps : String) : Oper := { dst := some d, op := Op.build tT #[(0, Operand.func f)], type := tT, pos := ps, after := #[], guard := none }
def opI (tM d : Nat) (k : List UInt8) (ps : String) : Oper := { dst := none, op := Op.insert tM (Operand.tmp 1) (Operand.const (.string ⟨k.toArray⟩)) (Operand.tmp d), type := 0, pos := ps, after := #[{ on := 0, ground := Ground.data }, { on := 2 * d - 3, ground := Ground.data }], guard := none }
def genOps (tM tT : Nat) (ps : String) : Nat → List (Nat × List UInt8) → List Oper
  | _, [] => []
  | d, (f, k) :: l => opB tT d f ps :: opI tM d k ps :: genOps tM tT ps (d + 1) l
def putAll : KV → List (Nat × List UInt8) → KV
  | kvs, [] => kvs
  | kvs, (f, k) :: l => putAll (mput kvs k (fnV f)) l
section
variable {P : Program} {o : Roles} {r : List Nat} {b : Nat} {kt e : TypeId}
theorem wpList_insert {w : World} {kvs : KV} {ops : Array Oper} {rest : List Oper} {op : Oper} {a : Act} {Q : Exit → Act → World → Prop} (hg : op.guard = none) (m x v : Operand) (t : TypeId) (hop : op.op = Op.insert t m x v)
    (ht : P.underlying t = some (.map kt e)) (hk : P.underlying kt = some .string) (h : MBlk o w r b kvs) (hm : a.eval m = .map (some b)) {k : List UInt8} (hx : a.eval x = txt k) {val : Value} (hv : a.eval v = val)
    (hK : ∀ w', MBlk o w' r b (mput kvs k val) → Stp r o w o w' → wpList P ops Q rest (a.put op.dst undef) w') : wpList P ops Q (op :: rest) a w := by
  refine wpList_plain hg fun K' hK' => ?_
  obtain ⟨w', hrun, r1, r2⟩ := run_put h ht hk k val
  unfold Oper.wp
  simp [execOp, hop, hm, hx, hv, hrun, Result.andThen]
  exact hK' _ _ (hK w' r1 r2)
theorem wpList_gen {ops : Array Oper} {rest : List Oper} {Q : Exit → Act → World → Prop} {tM tT : Nat} {ps : String} (ht : P.underlying tM = some (.map kt e)) (hk : P.underlying kt = some .string)
    (hB : ∀ f (w : World), (Instr.build tT #[(0, .func (.func f) #[] #[])]).run P w = .ok (fnV f) w) :
    ∀ (l : List (Nat × List UInt8)) (d : Nat) (a : Act) (w : World) (kvs : KV), MBlk o w r b kvs → a.tmps[1]? = some (.map (some b)) → 1 < d → d + l.length ≤ a.tmps.size →
      (∀ a' w', MBlk o w' r b (putAll kvs l) → Stp r o w o w' → a'.tmps[1]? = some (.map (some b)) → a'.tmps.size = a.tmps.size → a'.defers = a.defers → wpList P ops Q rest a' w') →
      wpList P ops Q (genOps tM tT ps d l ++ rest) a w
  | [], d, a, w, kvs, hm, h1, hd, hs, hK => hK a w hm (Stp.refl _ _ _) h1 rfl rfl
  | (f, k) :: l, d, a, w, kvs, hm, h1, hd, hs, hK => by
    simp only [List.length_cons] at hs
    show wpList P ops Q (opB tT d f ps :: (opI tM d k ps :: (genOps tM tT ps (d + 1) l ++ rest))) a w
    refine wpList_plain rfl fun K' hK' => ?_
    unfold Oper.wp
    have hrun := hB f w
    have he : a.eval (.func f) = .func (.func f) #[] #[] := rfl
    simp [execOp, opB, he, hrun, Result.andThen]
    refine hK' _ _ ?_
    have hg1 : ∀ {A : Array Value} {i : Nat} (v : Value), A[i]? = some v → A.getD i undef = v := fun v h => by rw [Array.getD_eq_getD_getElem?, h]; rfl
    refine wpList_insert rfl (.tmp 1) (.const (.string ⟨k.toArray⟩)) (.tmp d) tM rfl ht hk hm (k := k) (val := fnV f) ?_ rfl ?_ ?_
    · show (a.put (some d) (fnV f)).tmps.getD 1 undef = _
      exact hg1 _ (by simp [Act.put, show d ≠ 1 by omega, h1])
    · show (a.put (some d) (fnV f)).tmps.getD d undef = _
      exact hg1 _ (by simp [Act.put, Array.getElem?_setIfInBounds]; omega)
    · intro w' hm' st'
      refine wpList_gen ht hk hB l (d + 1) _ w' _ hm' ?_ (by omega) ?_ ?_
      · simp [opI, Act.put, show d ≠ 1 by omega, h1]
      · simp [opI, Act.put]; omega
      · intro a' w'' hm'' st'' g1 g2 g3
        refine hK a' w'' hm'' (st'.trans st'') g1 ?_ ?_
        · rw [g2]; simp [opI, Act.put]
        · rw [g3]; rfl
end
/-- The table of this layer. -/
def cmdL : List (Nat × List UInt8) := [
  (98, [97, 112, 112, 101, 110, 100]),
  (99, [98, 105, 116, 99, 111, 117, 110, 116]),
  (100, [98, 105, 116, 111, 112]),
  (101, [98, 105, 116, 112, 111, 115]),
  (102, [100, 101, 99, 114]),
  (102, [100, 101, 99, 114, 98, 121]),
  (103, [103, 101, 116]),
  (104, [103, 101, 116, 98, 105, 116]),
  (105, [103, 101, 116, 100, 101, 108]),
  (106, [103, 101, 116, 101, 120]),
  (107, [103, 101, 116, 114, 97, 110, 103, 101]),
  (108, [103, 101, 116, 115, 101, 116]),
  (102, [105, 110, 99, 114]),
  (102, [105, 110, 99, 114, 98, 121]),
  (109, [109, 103, 101, 116]),
  (110, [109, 115, 101, 116]),
  (110, [109, 115, 101, 116, 110, 120]),
  (111, [112, 115, 101, 116, 101, 120]),
  (112, [115, 101, 116]),
  (113, [115, 101, 116, 98, 105, 116]),
  (111, [115, 101, 116, 101, 120]),
  (114, [115, 101, 116, 110, 120]),
  (115, [115, 101, 116, 114, 97, 110, 103, 101]),
  (116, [115, 116, 114, 108, 101, 110])]
def CmdDid (w : World) (e : Ending) (w' : World) : Prop := ∃ b, e = .returned (.map (some b)) ∧ MBlk (none0.put b [0]) w' [0] b (putAll [] cmdL) ∧ Below w.heap.size w w'
set_option maxRecDepth 20000 in
set_option maxHeartbeats 4000000 in
theorem commands_ok (w : World) : Calls Tryz.prog 63 #[] w (CmdDid w) := by
  go_enter Tryz.func63, Tryz.ntmps63
  refine wp_seq (wp_region_lit (wpList_run (a' := ⟨#[.map none, undef, undef, undef, undef, undef, undef, undef, undef, undef, undef, undef, undef, undef, undef, undef, undef, undef, undef, undef, undef, undef, undef, undef, undef, undef, undef], []⟩) (w' := w) (by kernel_rfl) ?_))
  refine wp_seq (wp_region_list ?_)
  show wpList _ _ _ ({ dst := some 1, op := Op.makeMap 104 none, type := 104, pos := "strcmd.go:30", after := #[], guard := none } :: (genOps 104 102 "strcmd.go:30" 2 cmdL ++ _)) _ _
  refine wpList_plain rfl fun K' hK' => ?_
  unfold Oper.wp
  have hrun : (Instr.makeMap 104 none).run Tryz.prog w = .ok (.map (some w.heap.size)) (w.alloc (.map #[] 0)) := by kernel_rfl
  simp only [execOp, Option.map_none]
  simp [hrun, Result.andThen]
  refine hK' _ _ ?_
  have hm0 := MBlk.new none0 w [0] w.heap.size rfl
  refine wpList_gen (P := Tryz.prog) (kt := 9) (e := 102) (by kernel_rfl) (by kernel_rfl) (fun f w => by kernel_rfl) cmdL 2 _ _ [] hm0 rfl (by decide) (by show (26 : Nat) ≤ 27; decide) ?_
  intro a' w' hm st g1 g2 g3
  have g2' : a'.tmps.size = 27 := g2
  have e1 : a'.eval (.tmp 1) = .map (some w.heap.size) := by
    show a'.tmps.getD 1 undef = _
    rw [Array.getD_eq_getD_getElem?, g1]; rfl
  refine wpList_plain rfl fun K1 hK1 => ?_
  unfold Oper.wp
  simp only [execOp]
  simp [e1]
  refine hK1 _ _ ?_
  have e2 : (a'.put (some 26) (.map (some w.heap.size))).eval (.tmp 26) = .map (some w.heap.size) := by
    show (a'.put (some 26) (.map (some w.heap.size))).tmps.getD 26 undef = _
    rw [Array.getD_eq_getD_getElem?]
    simp [Act.put, g2']
  refine wpList_plain rfl fun K2 hK2 => ?_
  unfold Oper.wp
  simp only [execOp]
  simp [e2]
  refine hK2 _ _ ?_
  refine wpList_nil ?_
  refine wp_ret ?_
  refine bodyPost_ret (v := .map (some w.heap.size)) ?_ ?_ ⟨_, rfl, hm, ?_⟩
  · refine (results_tmp rfl _ _ _).trans ?_
    show Result.ok (((a'.put (some 26) (.map (some w.heap.size))).put (some 0) (.map (some w.heap.size))).tmps.getD 0 undef) w' = _
    rw [Array.getD_eq_getD_getElem?]
    simp [Act.put, g2']
  · exact g3
  · refine ⟨st.os, st.tape, st.output, Nat.le_trans (by simp) st.size, fun b hb => ?_⟩
    rw [st.block b (by simp; omega) (by rw [Roles.put_other (by omega)]; simp [none0])]
    exact Below.heap_alloc _ _ _ hb
end Go.Proofs.YthojmgjgmbnopaaGreatDoor
namespace Go.Proofs.YthojmgjgmbnopaaGreatDoor
open Go Go.RowKit
/-! Run. -/
theorem vw_rest {A : Nat → Prop} {w : World} {v : Value} {x : Tx} {xs : List Tx} (h : Vw A w v 1 (xs.length + 1) ((x :: xs).map txt)) :
    ∃ b off c a' c', v = .slice (some ⟨b, off, none⟩) (xs.length + 1) c ∧ w.cell? ⟨b, off, none⟩ = some (.string ⟨x.toArray⟩) ∧ A b ∧ Vw A w (.slice a' xs.length c') 1 xs.length (xs.map txt) ∧
      (∀ W, (Instr.slice 39 v (some (.int .i64 1)) none none).run Tryz.prog W = .ok (.slice a' xs.length c') W) := by
  obtain ⟨b, off, c, rfl, _, hA, hc⟩ := vw_head1 h
  obtain ⟨a', c', _, h2, _, hv⟩ := vw_cut h 1 (xs.length + 1) (by omega) (Nat.le_refl _)
  refine ⟨b, off, c, a', c', rfl, hc, hA, ?_, fun W => h2 rfl W⟩
  have e : (((x :: xs).map txt).drop 1).take (xs.length + 1 - 1) = xs.map txt := by simp; exact List.take_of_length_le (by simp)
  rw [e] at hv
  exact hv
/-- A request that is one, by the table. -/
def Fits (low : Tx) (n : Nat) : Prop := ∃ s, specOf low = some s ∧ ((0 ≤ s.arity ∧ (n : Int) = s.arity) ∨ (s.arity < 0 ∧ - s.arity ≤ (n : Int))) ∧ -9223372036854775808 < s.arity
/-- Which function serves which command. -/
def Goes (low : Tx) (F : FuncId) : Prop := mfind (putAll [] cmdL) low = some (fnV F)
/-- What a command's function does, called at a tick over a request of its own that lies apart from the space. -/
def ServesT (F : FuncId) (w : World) (q : List Nat) (p : Nat) (now : Int) (S : SP) (c : Cnt) (nm : Tx) (args : List Tx) (r : RP) (K : SP → Cnt → Prop) : Prop :=
  ∀ (o1 : Roles) (w1 : World) (cb m : Nat) (sv : Value), SpJ o1 w1 q p S c → ¬ q <+: [m] → Below w.heap.size w w1 → Blk o1 w1 [m] cb (callC p now nm sv) 108 → Vw (fun b => b < w1.heap.size ∧ ¬ q <+: o1 b) w1 sv 1 args.length (args.map txt) →
    Calls Tryz.prog F #[.pointer (some ⟨cb, 0, none⟩)] w1 (RepL o1 w1 q p r K)
def goesL : List FuncId := [98, 99, 100, 101, 102, 103, 104, 105, 106, 107, 108, 109, 110, 111, 112, 113, 114, 115, 116]
theorem goes_list : ∀ l : KV, (∀ x ∈ l, ∃ F, F ∈ goesL ∧ x.2 = fnV F) → ∀ low F, mfind l low = some (fnV F) → F ∈ goesL
  | [], _, low, F, h => by cases h
  | (k, u) :: l, hl, low, F, h => by
    unfold mfind at h
    split at h
    · obtain ⟨G, hG, e⟩ := hl _ (List.mem_cons_self ..)
      dsimp only at e
      rw [e] at h
      simp [fnV] at h
      rw [← h]; exact hG
    · exact goes_list l (fun x hx => hl x (List.mem_cons_of_mem _ hx)) low F h
theorem mput_all {Q : Value → Prop} : ∀ (l : KV) (k : Tx) (v : Value), (∀ x ∈ l, Q x.2) → Q v → ∀ x ∈ mput l k v, Q x.2
  | [], k, v, _, hv, x, hx => by simp [mput] at hx; rw [hx]; exact hv
  | (j, u) :: l, k, v, hl, hv, x, hx => by
    unfold mput at hx
    split at hx
    · rcases List.mem_cons.1 hx with rfl | h
      · exact hv
      · exact hl x (List.mem_cons_of_mem _ h)
    · rcases List.mem_cons.1 hx with rfl | h
      · exact hl _ (List.mem_cons_self ..)
      · exact mput_all l k v (fun y hy => hl y (List.mem_cons_of_mem _ hy)) hv x h
theorem putAll_all {Q : Value → Prop} : ∀ (l : List (Nat × Tx)) (kvs : KV), (∀ x ∈ kvs, Q x.2) → (∀ y ∈ l, Q (fnV y.1)) → ∀ x ∈ putAll kvs l, Q x.2
  | [], _, h, _ => h
  | (f, k) :: l, kvs, h, hl => putAll_all l (mput kvs k (fnV f)) (mput_all kvs k _ h (hl _ (List.mem_cons_self ..))) (fun y hy => hl y (List.mem_cons_of_mem _ hy))
theorem Goes.mem {low : Tx} {F : FuncId} (h : Goes low F) : F ∈ goesL :=
  goes_list _ (putAll_all (Q := fun v => ∃ F, F ∈ goesL ∧ v = fnV F) cmdL [] (by simp) (fun y hy => ⟨y.1, by revert y; decide, rfl⟩)) low F h
section
variable {o : Roles} {w : World} {q : List Nat} {p : Nat} {c : Cnt} {S : SP}
set_option maxRecDepth 10000 in
set_option maxHeartbeats 20000000 in
theorem tRun_any (h : SpJ o w q p S c) (hq : q ≠ []) {nm low : Tx} {args : List Tx} {sv : Value} {now now' : Int} (hmx : max 0 (min now 9007199254740992) = now') (hv : Vw (fun b => b < w.heap.size ∧ ¬ q <+: o b) w sv 1 (args.length + 1) ((nm :: args).map txt)) (hlow : lowL nm = low) (hn : nm.length ≤ 1099511627776) (hl : args.length + 1 ≤ 1099511627776) (hne : 0 < args.length)
    (hft : Fits low (args.length + 1)) {F : FuncId} (hg : Goes low F) {r : RP} {K : SP → Cnt → Prop} (hs : ServesT F w q p now' S c low args r K) :
    Calls Tryz.prog 23 #[.pointer (some ⟨p, 0, none⟩), .int .i64 now, sv] w (RunDid o w q p r K) := by
  obtain ⟨o1, m, hbg, hj⟩ := begin_roles h hq
  obtain ⟨s, hsp, hsa, hsb⟩ := hft
  obtain ⟨b, off, cap, a', c', rfl, hk, hbl, hvt, hsl⟩ := vw_rest hv
  obtain ⟨hbl, _⟩ := hbl
  have HCK := Lib.hid (check_ok ((hv.imp (B := Old w) (fun b hb => hb.1)).below hbg.res.2) hn (by rw [hlow]; exact hsp) hsa hl hsb)
  have HLO := Lib.hid (fun W => lower_ok nm W hn)
  have HV := Lib.hid hvt
  have HBG := Lib.hid hbg
  have HJ := Lib.hid hj
  have HS := Lib.hid hs
  have HB1 := Lib.hid hbg.res.2
  have HR1 := Lib.hid hbg.res.1
  have HG := Lib.hid hg
  rw [hlow] at HLO
  clear h hbg hj hs hv hvt hsp hsa hsb hg hlow
  unfold txt at HLO
  have hn2 : 1 < args.length + 1 := by omega
  have hn3 : ((args.length + 1 : Nat) : Int) = ((args.length + 1 : Nat) : Int) := rfl
  generalize args.length + 1 = N at *
  clear hn3
  have hn1 : 0 < N := by omega
  go_enter Tryz.func23, Tryz.ntmps23
  go_wp2_with fail
  refine HCK.out.mono ?_; rintro e w2 ⟨rfl, hB2⟩
  have HB2 := Lib.hid hB2
  have hB02 := HB1.out.trans (hB2.mono HB1.out.size)
  have hk2 : w2.cell? ⟨b, off, none⟩ = some (.string ⟨nm.toArray⟩) := by rw [(bcell hB02).1 _ _ hbl]; exact hk
  clear hB2 hk hB02 HCK
  go_wp2_with fail
  refine (HLO.out _).mono ?_; rintro e w3 ⟨rfl, hB3⟩
  have HB3 := Lib.hid (HB2.out.trans (hB3.mono HB2.out.size))
  clear hB3 HB2 HLO
  go_wp2_with fail
  refine (commands_ok _).mono ?_; rintro e w4 ⟨tb, rfl, hmb, hB4⟩
  have hlk := run_look (P := Tryz.prog) hmb Tryz.underlying104 Tryz.underlying9 low true (z := .agg #[.nilFunc]) (by kernel_rfl)
  have hgo := HG.out
  unfold Goes at hgo
  rw [hgo] at hlk
  simp only [Option.getD_some, Option.isSome_some, if_true] at hlk
  unfold txt fnV at hlk
  have HB4 := Lib.hid (HB3.out.trans (hB4.mono HB3.out.size))
  have hbA : Blk none0 (w4.alloc (.cells #[.nilFunc] 102)) [] w4.heap.size #[.nilFunc] 102 := ⟨heap_alloc_new w4 _, rfl⟩
  have hcA := hbA.cell
  have hfA := hbA.free
  have hst : (store ⟨w4.heap.size, 0, none⟩ (.func (.func F) #[] #[])).run Tryz.prog (w4.alloc (.cells #[.nilFunc] 102)) = .ok () ((w4.alloc (.cells #[.nilFunc] 102)).setCell ⟨w4.heap.size, 0, none⟩ (.func (.func F) #[] #[])) := by
    rw [run_store _ _ _ _ _ rfl]
    simp [hcA, hfA]
  have hmem := HG.out.mem
  have hz1 : (w.alloc (.cells zRepC 30)).heap.size = w.heap.size + 1 := by simp
  have hHB : Below w.heap.size w ((w4.alloc (.cells #[.func (.func F) #[] #[]] 102)).alloc (.cells (callC p now' low (.slice a' args.length c')) 108)) :=
    ((HB1.out.trans (HB4.out.mono HB1.out.size)).alloc (by have := HB4.out.size; have := HB1.out.size; omega) _).alloc (by have := HB4.out.size; have := HB1.out.size; simp; omega) _
  have hv4 := (HV.out.below hHB).imp (B := fun b => b < ((w4.alloc (.cells #[.func (.func F) #[] #[]] 102)).alloc (.cells (callC p now' low (.slice a' args.length c')) 108)).heap.size ∧ ¬ q <+: o1 b) (fun b hb => ⟨Nat.lt_of_lt_of_le hb.1 hHB.size, by rw [HBG.out.old b hb.1]; exact hb.2⟩)
  have hcb : Blk o1 ((w4.alloc (.cells #[.func (.func F) #[] #[]] 102)).alloc (.cells (callC p now' low (.slice a' args.length c')) 108)) [m + 2] (w4.heap.size + 1) (callC p now' low (.slice a' args.length c')) 108 := by
    have e : (w4.alloc (.cells #[.func (.func F) #[] #[]] 102)).heap.size = w4.heap.size + 1 := by simp
    refine ⟨by rw [← e]; exact heap_alloc_new _ _, HBG.out.new _ ?_⟩
    have := HB4.out.size; have := HB1.out.size; omega
  have HC := Lib.hid (HS.out o1 _ _ (m + 2) _ (HJ.out.below hHB) (HBG.out.aq 2).not hHB hcb hv4)
  have hr4 : Blk o1 ((w4.alloc (.cells #[.func (.func F) #[] #[]] 102)).alloc (.cells (callC p now' low (.slice a' args.length c')) 108)) [m + 2] w.heap.size zRepC 30 :=
    HR1.out.below ((HB4.out.alloc (by have := HB4.out.size; omega) _).alloc (by have := HB4.out.size; simp; omega) _)
  have HR4 := Lib.hid hr4
  have HBX := Lib.hid hHB
  clear hgo hmb hz1 hB4 HB3 HG hk2 hbA hHB hv4 hcb hr4 HV HS HB4
  obtain ⟨kind, text, rn, list⟩ := r
  unfold RepL at HC
  dsimp only at HC
  go_upto_region 8 with fail
  simp only [goesL, List.mem_cons, List.not_mem_nil, or_false] at hmem
  rcases hmem with rfl | rfl | rfl | rfl | rfl | rfl | rfl | rfl | rfl | rfl | rfl | rfl | rfl | rfl | rfl | rfl | rfl | rfl | rfl <;> (
    go_wp2_with fail
    refine HC.out.mono ?_
    rintro e w5 ⟨v, rfl, hv5, o5, S5, c5, hj5, hK5, hs5⟩
    obtain ⟨a5, cap5, rfl, _⟩ := id hv5.slice
    have hr5 := HR4.out.keep hs5 (HBG.out.aq 2).not
    have hrc := hr5.cell
    have hrf := hr5.free
    have HV5 := Lib.hid hv5
    have HJ5 := Lib.hid hj5
    have HK5 := Lib.hid hK5
    have HR5 := Lib.hid hr5
    have hsz := HR4.out.lt
    have HSZ := Lib.hid hsz
    have HS5 := Lib.hid ((HBG.out.st q).trans ((Stp.ofBelow q o1 HBX.out).trans hs5))
    clear hv5 hj5 hK5 hr5 hs5 hsz HC HR4 HBX
    go_wp2_with fail
    obtain ⟨hj7, hs7⟩ := HBG.out.stored HJ5.out HR5.out HS5.out (.int .i64 (kind : Int)) (.string ⟨text.toArray⟩) (.int .i64 rn) (.slice a5 list.length cap5)
    exact bodyPost_ret (v := .tuple #[repV kind text rn (.slice a5 list.length cap5), .bool true]) (by simp [results, Tryz.results23, go_sem, hrc]) rfl ⟨_, rfl, vw_four HV5.out HSZ.out, o5, S5, c5, hj7, HK5.out, hs7⟩)
theorem tRun_ok (h : SpJ o w q p S c) (hq : q ≠ []) {nm low : Tx} {args : List Tx} {sv : Value} {now : Int} (hnow : 0 ≤ now ∧ now ≤ 9007199254740992) (hv : Vw (fun b => b < w.heap.size ∧ ¬ q <+: o b) w sv 1 (args.length + 1) ((nm :: args).map txt)) (hlow : lowL nm = low) (hn : nm.length ≤ 1099511627776) (hl : args.length + 1 ≤ 1099511627776) (hne : 0 < args.length)
    (hft : Fits low (args.length + 1)) {F : FuncId} (hg : Goes low F) {r : RP} {K : SP → Cnt → Prop} (hs : ServesT F w q p now S c low args r K) :
    Calls Tryz.prog 23 #[.pointer (some ⟨p, 0, none⟩), .int .i64 now, sv] w (RunDid o w q p r K) :=
  tRun_any h hq (by rw [Int.min_eq_left hnow.2, Int.max_eq_right hnow.1]) hv hlow hn hl hne hft hg hs
end
end Go.Proofs.YthojmgjgmbnopaaGreatDoor
